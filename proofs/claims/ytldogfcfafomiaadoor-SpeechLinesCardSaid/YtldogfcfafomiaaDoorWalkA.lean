/- A part of the proof: walks of the functions that the law calls. No condition. -/
import Derived.Test.YtldogfcfafomiaaDoorBase
set_option linter.all false
section
namespace Go.Ev.F32
open Go.Proofs Go.Ev
set_option maxRecDepth 100000
set_option linter.all false
abbrev I (n : Int) : PV := .int .i64 n
abbrev U (n : Int) : PV := .int .u64 n
abbrev B (b : Bool) : PV := .bool b
abbrev S (s : List UInt8) : PV := .str s
/-- One digit. -/
def d1 (n : Nat) : UInt8 := UInt8.ofNat (48 + n)
/-- A number's digits. -/
def dg (n : Nat) : List UInt8 := if h : n < 10 then [d1 n] else dg (n / 10) ++ [d1 (n % 10)]
theorem dg_lt {n : Nat} (h : n < 10) : dg n = [d1 n] := by rw [dg]; simp [h]
theorem dg_ge {n : Nat} (h : ¬ n < 10) : dg n = dg (n / 10) ++ [d1 (n % 10)] := by rw [dg]; simp [h]
theorem d1_of {n : Nat} (h : n < 10) : UInt8.ofNat (IntKind.u8.wrap (48 + (n : Int))).toNat = d1 n := by
  have : IntKind.u8.wrap (48 + (n : Int)) = 48 + (n : Int) := by
    rw [show (48 + (n : Int)) = ((48 + n : Nat) : Int) by omega]
    simp [IntKind.wrap, IntKind.bits, IntKind.signed]
    omega
  rw [this, d1]
  congr 1
theorem str_add {a b : List UInt8} (h : a.length + b.length ≤ 1000000000) : strBin .add a b = some (.str (a ++ b)) := by
  simp only [strBin]
  rw [if_pos]
  simp [IntKind.max, IntKind.bits, IntKind.signed]
  omega
theorem dg_len : ∀ (k n : Nat), n < 10 ^ (k + 1) → (dg n).length ≤ k + 1
  | 0, n, h => by rw [dg_lt (by omega)]; simp
  | k + 1, n, h => by
    by_cases hn : n < 10
    · rw [dg_lt hn]; simp
    · rw [dg_ge hn]
      have := dg_len k (n / 10) (by rw [Nat.pow_succ] at h; omega)
      simp only [List.length_append, List.length_singleton]
      omega
theorem dg_le {n : Nat} (h : n < 18446744073709551616) : (dg n).length ≤ 20 := dg_len 19 n (by omega)
theorem p15 (n : Nat) (h : n < 18446744073709551616) : PS Cf okf 15 [9] [U n] (fun r => r = S (dg n)) := by
  induction n using Nat.strongRecOn with
  | _ n ih =>
  refine PS.mk extMono Tryd.func15 body15 (by decide) rfl ?_
  simp only [c15, Tryd.f15, Option.getD_some]
  by_cases hn : n < 10
  · simp -implicitDefEqProofs -dsimp (maxSteps := 1000000) (disch := first | omega | (simp only [wkLen]; omega) | decide +kernel) only [↓wkPre, ↓wkPre2, ↓wkE, wkPost, wkDef, wkF, simprocAttr, elems, bytesOf, byteOf]
    rw [d1_of hn, dg_lt hn]
  · have hl := dg_le (n := n / 10) (by omega)
    have hd := d1_of (n := n % 10) (by omega)
    rw [show ((n % 10 : Nat) : Int) = (n : Int) % 10 by omega] at hd
    simp -implicitDefEqProofs -dsimp (maxSteps := 1000000) (disch := first | omega | (simp only [wkLen]; omega) | decide +kernel) only [↓wkPre, ↓wkPre2, ↓wkE, wkPost, wkDef, wkF, simprocAttr]
    refine evC_pl pl_15_3 (by kernel_rfl) (by decide +kernel) ?_
    simp only [pl_15_3]
    simp -implicitDefEqProofs -dsimp (maxSteps := 1000000) (disch := first | omega | (simp only [wkLen]; omega) | decide +kernel) only [↓wkPre, ↓wkPre2, ↓wkE, wkPost, wkDef, wkF, simprocAttr]
    refine ⟨?_, ?_⟩
    · refine PS.app md_15 Tryd.func15 (ih (n / 10) (by omega) (by omega)) rfl ?_
      rintro _ rfl
      simp -implicitDefEqProofs -dsimp (maxSteps := 1000000) (disch := first | omega | (simp only [wkLen]; omega) | decide +kernel) only [↓wkPre, ↓wkPre2, ↓wkE, wkPost, wkDef, wkF, simprocAttr, elems, bytesOf, byteOf, hd, str_add]
      rw [dg_ge hn]
    · simp -implicitDefEqProofs -dsimp (maxSteps := 1000000) (disch := first | omega | (simp only [wkLen]; omega) | decide +kernel) only [↓wkPre, ↓wkPre2, ↓wkE, wkPost, wkDef, wkF, simprocAttr, elems, bytesOf, byteOf, hd, str_add]
      refine PS.app md_15 Tryd.func15 (ih (n / 10) (by omega) (by omega)) rfl ?_
      rintro _ rfl
      simp -implicitDefEqProofs -dsimp (maxSteps := 1000000) (disch := first | omega | (simp only [wkLen]; omega) | decide +kernel) only [↓wkPre, ↓wkPre2, ↓wkE, wkPost, wkDef, wkF, simprocAttr, elems, bytesOf, byteOf, hd, str_add]
      rw [dg_ge hn]
theorem digits_step {n : Nat} (out : List UInt8) (hn : ¬ n < 10) : dg (n / 10) ++ (d1 (n % 10) :: out) = dg n ++ out := by rw [dg_ge hn]; simp
theorem p26 (n : Nat) (h : n < 18446744073709551616) : PS Cf okf 26 [9] [U n] (fun r => r = S (dg n)) := by
  refine PS.mk extMono Tryd.func26 body26 (by decide) rfl ?_
  simp only [c26, Tryd.f26, Option.getD_some]
  have hl := dg_le h
  simp -implicitDefEqProofs -dsimp (maxSteps := 1000000) (disch := first | omega | (simp only [wkLen]; omega) | decide +kernel) only [↓wkPre, ↓wkPre2, ↓wkE, wkPost, wkDef, wkF, simprocAttr]
  refine loop_use extMono (fun k e H => ∃ (out : List UInt8), e 0 = .p (U k) ∧ e 3 = .p (S out) ∧ dg k ++ out = dg n ∧ k < 18446744073709551616) ?_ n _ _ ⟨[], ?_⟩
  · rintro k e H ⟨out, e0, e3, ho, hk⟩
    have hol : (dg k).length + out.length ≤ 20 := by rw [← List.length_append, ho]; exact hl
    by_cases h9 : k < 10
    · have hd := d1_of h9
      rw [dg_lt h9] at ho hol
      simp only [List.length_singleton] at hol
      simp -implicitDefEqProofs -dsimp (maxSteps := 1000000) (disch := first | omega | (simp only [wkLen]; omega) | decide +kernel) only [↓wkPre, ↓wkPre2, ↓wkE, wkPost, wkDef, wkF, simprocAttr, e0, e3, elems, bytesOf, byteOf, hd, str_add]
      rw [← ho]; rfl
    · have hd := d1_of (n := k % 10) (by omega)
      rw [show ((k % 10 : Nat) : Int) = (k : Int) % 10 by omega] at hd
      simp -implicitDefEqProofs -dsimp (maxSteps := 1000000) (disch := first | omega | (simp only [wkLen]; omega) | decide +kernel) only [↓wkPre, ↓wkPre2, ↓wkE, wkPost, wkDef, wkF, simprocAttr, e0, e3, elems, bytesOf, byteOf, hd, str_add]
      exact ⟨k / 10, by omega, d1 (k % 10) :: out, rfl, rfl, by rw [← ho, digits_step out h9], by omega⟩
  · simp -implicitDefEqProofs -dsimp (maxSteps := 1000000) (disch := first | omega | (simp only [wkLen]; omega) | decide +kernel) only [↓wkPre, ↓wkPre2, ↓wkE, wkPost, wkDef, wkF, simprocAttr]
    simp [h]
/-- A byte that stands for itself between quotes. -/
def pln (c : UInt8) : Bool := decide (32 < c.toNat) && decide (c.toNat < 127) && decide (c.toNat ≠ 37) && decide (c.toNat ≠ 34)
theorem p22 (c : UInt8) : PS Cf okf 22 [4] [.int .u8 c.toNat] (fun r => r = B (pln c)) := by
  refine PS.mk extMono Tryd.func22 body22 (by decide) rfl ?_
  simp only [c22, Tryd.f22, Option.getD_some]
  unfold pln
  by_cases h1 : 32 < c.toNat
  · by_cases h2 : c.toNat < 127
    · by_cases h3 : c.toNat = 37
      · simp -implicitDefEqProofs -dsimp (maxSteps := 1000000) (disch := first | omega | (simp only [wkLen]; omega) | decide +kernel) only [↓wkPre, ↓wkPre2, ↓wkE, wkPost, wkDef, wkF, simprocAttr, h1, h2, h3]
      · by_cases h4 : c.toNat = 34
        · simp -implicitDefEqProofs -dsimp (maxSteps := 1000000) (disch := first | omega | (simp only [wkLen]; omega) | decide +kernel) only [↓wkPre, ↓wkPre2, ↓wkE, wkPost, wkDef, wkF, simprocAttr, h1, h2, h3, h4]
        · simp -implicitDefEqProofs -dsimp (maxSteps := 1000000) (disch := first | omega | (simp only [wkLen]; omega) | decide +kernel) only [↓wkPre, ↓wkPre2, ↓wkE, wkPost, wkDef, wkF, simprocAttr, h1, h2, h3, h4]
          congr 1
          simp
          omega
    · simp -implicitDefEqProofs -dsimp (maxSteps := 1000000) (disch := first | omega | (simp only [wkLen]; omega) | decide +kernel) only [↓wkPre, ↓wkPre2, ↓wkE, wkPost, wkDef, wkF, simprocAttr, h1, h2]
  · simp -implicitDefEqProofs -dsimp (maxSteps := 1000000) (disch := first | omega | (simp only [wkLen]; omega) | decide +kernel) only [↓wkPre, ↓wkPre2, ↓wkE, wkPost, wkDef, wkF, simprocAttr, h1]
theorem neg64 {n : Int} (h : -9223372036854775808 ≤ n ∧ n ≤ 9223372036854775807) (hn : n < 0) : IntKind.u64.wrap (0 - IntKind.u64.wrap n) = (n.natAbs : Int) := by
  simp [IntKind.wrap, IntKind.bits, IntKind.signed]
  omega
theorem p17 (n : Int) (h : -9223372036854775808 ≤ n ∧ n ≤ 9223372036854775807) : PS Cf okf 17 [9] [I n] (fun r => r = S (if n < 0 then 45 :: dg n.natAbs else dg n.natAbs)) := by
  refine PS.mk extMono Tryd.func17 body17 (by decide) rfl ?_
  simp only [c17, Tryd.f17, Option.getD_some]
  have hl := dg_le (n := n.natAbs) (by omega)
  by_cases hn : n < 0
  · simp -implicitDefEqProofs -dsimp (maxSteps := 1000000) (disch := first | omega | (simp only [wkLen]; omega) | decide +kernel) only [↓wkPre, ↓wkPre2, ↓wkE, wkPost, wkDef, wkF, simprocAttr]
    rw [neg64 h hn]
    refine PS.app md_15 Tryd.func15 (p15 n.natAbs (by omega)) rfl ?_
    rintro _ rfl
    simp -implicitDefEqProofs -dsimp (maxSteps := 1000000) (disch := first | omega | (simp only [wkLen]; omega) | decide +kernel) only [↓wkPre, ↓wkPre2, ↓wkE, wkPost, wkDef, wkF, simprocAttr, str_add]
  · simp -implicitDefEqProofs -dsimp (maxSteps := 1000000) (disch := first | omega | (simp only [wkLen]; omega) | decide +kernel) only [↓wkPre, ↓wkPre2, ↓wkE, wkPost, wkDef, wkF, simprocAttr]
    rw [show n = (n.natAbs : Int) by omega]
    refine PS.app md_15 Tryd.func15 (p15 n.natAbs (by omega)) rfl ?_
    rintro _ rfl
    simp -implicitDefEqProofs -dsimp (maxSteps := 1000000) (disch := first | omega | (simp only [wkLen]; omega) | decide +kernel) only [↓wkPre, ↓wkPre2, ↓wkE, wkPost, wkDef, wkF, simprocAttr, str_add]
    rw [Int.natAbs_natCast]
theorem p28 (n : Int) (h : -9223372036854775808 ≤ n ∧ n ≤ 9223372036854775807) : PS Cf okf 28 [9] [I n] (fun r => r = S (if n < 0 then 45 :: dg n.natAbs else dg n.natAbs)) := by
  refine PS.mk extMono Tryd.func28 body28 (by decide) rfl ?_
  simp only [c28, Tryd.f28, Option.getD_some]
  have hl := dg_le (n := n.natAbs) (by omega)
  by_cases hn : n < 0
  · simp -implicitDefEqProofs -dsimp (maxSteps := 1000000) (disch := first | omega | (simp only [wkLen]; omega) | decide +kernel) only [↓wkPre, ↓wkPre2, ↓wkE, wkPost, wkDef, wkF, simprocAttr]
    rw [show 0 - (n + 1) + 1 = (n.natAbs : Int) by omega]
    refine PS.app md_26 Tryd.func26 (p26 n.natAbs (by omega)) rfl ?_
    rintro _ rfl
    simp -implicitDefEqProofs -dsimp (maxSteps := 1000000) (disch := first | omega | (simp only [wkLen]; omega) | decide +kernel) only [↓wkPre, ↓wkPre2, ↓wkE, wkPost, wkDef, wkF, simprocAttr, str_add]
  · simp -implicitDefEqProofs -dsimp (maxSteps := 1000000) (disch := first | omega | (simp only [wkLen]; omega) | decide +kernel) only [↓wkPre, ↓wkPre2, ↓wkE, wkPost, wkDef, wkF, simprocAttr]
    rw [show n = (n.natAbs : Int) by omega]
    refine PS.app md_26 Tryd.func26 (p26 n.natAbs (by omega)) rfl ?_
    rintro _ rfl
    simp -implicitDefEqProofs -dsimp (maxSteps := 1000000) (disch := first | omega | (simp only [wkLen]; omega) | decide +kernel) only [↓wkPre, ↓wkPre2, ↓wkE, wkPost, wkDef, wkF, simprocAttr, str_add]
    rw [Int.natAbs_natCast]
abbrev verbsL : List (List UInt8) := [[], [112, 117, 116], [103, 101, 116], [100, 101, 108], [114, 101, 99, 116], [99, 111, 117, 110, 116], [115, 97, 118, 101], [98, 97, 99, 107], [99, 111, 109, 109, 105, 116], [97, 98, 111, 114, 116]]
abbrev formsL : List (List UInt8) := [[], [107, 120, 121, 118], [107], [107], [119], [119], [110], [110], [], []]
theorem oK_eq {α : Type} {o : Option α} {x : α} {k : α → Prop} {t : Tag k} (h : o = some x) (hk : k x) : oK o k t := by subst h; exact hk
theorem p13 : PS Cf okf 13 [42] [] (fun r => r = .agg (verbsL.map S)) := by
  refine PS.mk extMono Tryd.func13 body13 (by decide) rfl ?_
  simp only [c13, Tryd.f13, Option.getD_some]
  simp -implicitDefEqProofs -dsimp (maxSteps := 1000000) (disch := first | omega | (simp only [wkLen]; omega) | decide +kernel) only [↓wkPre, ↓wkPre2, ↓evC_region_st [1], ↓evC_text_st [1], ↓evC_cond, ↓evC_block, ↓evC_stop [1], wkPost, wkDef, wkF, simprocAttr]
  refine stop_cut extMono (fun e H => e 0 = .vptr 0 0 ∧ H = [.var true (.p (.agg (verbsL.map S)))]) ?_ ?_
  · simp only [↓evC_text, ↓evC_region, ↓evOps_cons, ↓evOp_build]
    refine oK_eq (x := .p (.agg (verbsL.map S))) (by kernel_rfl) ?_
    simp -implicitDefEqProofs -dsimp (maxSteps := 1000000) (disch := first | omega | (simp only [wkLen]; omega) | decide +kernel) only [↓wkPre, ↓wkPre2, ↓wkE, wkPost, wkDef, wkF, simprocAttr]
  · rintro e H ⟨e0, rfl⟩
    simp -implicitDefEqProofs -dsimp (maxSteps := 1000000) (disch := first | omega | (simp only [wkLen]; omega) | decide +kernel) only [↓wkPre, ↓wkPre2, ↓wkE, wkPost, wkDef, wkF, simprocAttr, e0]
theorem p14 : PS Cf okf 14 [42] [] (fun r => r = .agg (formsL.map S)) := by
  refine PS.mk extMono Tryd.func14 body14 (by decide) rfl ?_
  simp only [c14, Tryd.f14, Option.getD_some]
  simp -implicitDefEqProofs -dsimp (maxSteps := 1000000) (disch := first | omega | (simp only [wkLen]; omega) | decide +kernel) only [↓wkPre, ↓wkPre2, ↓evC_region_st [1], ↓evC_text_st [1], ↓evC_cond, ↓evC_block, ↓evC_stop [1], wkPost, wkDef, wkF, simprocAttr]
  refine stop_cut extMono (fun e H => e 0 = .vptr 0 0 ∧ H = [.var true (.p (.agg (formsL.map S)))]) ?_ ?_
  · simp only [↓evC_text, ↓evC_region, ↓evOps_cons, ↓evOp_build]
    refine oK_eq (x := .p (.agg (formsL.map S))) (by kernel_rfl) ?_
    simp -implicitDefEqProofs -dsimp (maxSteps := 1000000) (disch := first | omega | (simp only [wkLen]; omega) | decide +kernel) only [↓wkPre, ↓wkPre2, ↓wkE, wkPost, wkDef, wkF, simprocAttr]
  · rintro e H ⟨e0, rfl⟩
    simp -implicitDefEqProofs -dsimp (maxSteps := 1000000) (disch := first | omega | (simp only [wkLen]; omega) | decide +kernel) only [↓wkPre, ↓wkPre2, ↓wkE, wkPost, wkDef, wkF, simprocAttr, e0]
end Go.Ev.F32
end
section
namespace Go.Ev.F32
open Go.Proofs Go.Ev
set_option maxRecDepth 100000
set_option linter.all false
abbrev hexL : List UInt8 := [48, 49, 50, 51, 52, 53, 54, 55, 56, 57, 97, 98, 99, 100, 101, 102]
/-- A digit of sixteen. -/
def hx (k : Nat) : UInt8 := hexL.getD k 0
/-- A byte between quotes. -/
def qb (c : UInt8) : List UInt8 := if pln c then [c] else [37, hx (c.toNat / 16), hx (c.toNat % 16)]
def qs (s : List UInt8) : List UInt8 := s.flatMap qb
/-- A text between quotes. -/
def qt (s : List UInt8) : List UInt8 := 34 :: (qs s ++ [34])
theorem qb_len (c : UInt8) : (qb c).length ≤ 3 := by unfold qb; split <;> simp
theorem qs_len : ∀ s : List UInt8, (qs s).length ≤ 3 * s.length
  | [] => by simp [qs]
  | c :: s => by
    have := qs_len s
    have := qb_len c
    simp only [qs, List.flatMap_cons, List.length_append, List.length_cons] at *
    omega
theorem qs_take {s : List UInt8} {i : Nat} (h : i < s.length) : qs (s.take (i + 1)) = qs (s.take i) ++ qb s[i] := by
  rw [List.take_succ_eq_append_getElem h, qs, List.flatMap_append]; simp [qs]
theorem ix_str (s : List UInt8) (k : IntKind) (i : Int) (h : 0 ≤ i) : evIndex Tryd.prog 9 (.p (.str s)) (.p (.int k i)) = (s[i.toNat]?).map fun c => .p (.int .u8 c.toNat) := by
  have hu : Tryd.prog.underlying 9 = some .string := by kernel_rfl
  simp only [evIndex, hu, atI, h, if_true]
theorem wrap_u8 {x : Int} (h : 0 ≤ x) (h2 : x < 256) : IntKind.u8.wrap x = x := by
  simp [IntKind.wrap, IntKind.bits, IntKind.signed]
  omega
theorem hexS {x y : Int} (h : 0 ≤ x) (h2 : x < 16) (hy : y = x + 1) : List.drop x.toNat (List.take y.toNat hexL) = [hx x.toNat] := by
  obtain ⟨n, rfl⟩ := Int.eq_ofNat_of_zero_le h
  subst hy
  have hn : n < 16 := by omega
  rw [show ((n : Int) + 1).toNat = n + 1 by omega, Int.toNat_natCast]
  have key : ∀ n : Fin 16, List.drop n.val (List.take (n.val + 1) hexL) = [hx n.val] := by decide
  exact key ⟨n, hn⟩
theorem p27 (s : List UInt8) (h : s.length ≤ 1000000) : PS Cf okf 27 [9] [S s] (fun r => r = S (qt s)) := by
  refine PS.mk extMono Tryd.func27 body27 (by decide) rfl ?_
  simp only [c27, Tryd.f27, Option.getD_some]
  simp -implicitDefEqProofs -dsimp (maxSteps := 1000000) (disch := first | omega | (simp only [wkLen]; omega) | decide +kernel) only [↓wkPre, ↓wkPre2, ↓wkE, wkPost, wkDef, wkF, simprocAttr]
  refine loop_use extMono (fun m e H => ∃ (i : Nat), m = s.length - i ∧ i ≤ s.length ∧ e 0 = .p (S s) ∧ e 3 = .p (S hexL) ∧ e 4 = .p (S (34 :: qs (s.take i))) ∧ e 5 = .p (I i)) ?_ s.length _ _ ⟨0, ?_⟩
  · rintro m e H ⟨i, rfl, hi, e0, e3, e4, e5⟩
    have hql := qs_len (s.take i)
    have htl : (s.take i).length ≤ 1000000 := by rw [List.length_take]; omega
    rcases Nat.lt_or_ge i s.length with hlt | hge
    · have gi : s[i]? = some s[i] := List.getElem?_eq_getElem hlt
      have hqt := qs_take hlt
      have g1 : List.drop i (List.take ((i : Int) + 1).toNat s) = [s[i]] := by rw [show ((i : Int) + 1).toNat = i + 1 by omega, List.take_succ_eq_append_getElem hlt, List.drop_left' (by simp; omega)]
      generalize s[i] = c at *
      have hqb : qb c = if pln c then [c] else [37, hx (c.toNat / 16), hx (c.toNat % 16)] := rfl
      unfold pln at hqb
      have hc := c.toNat_lt
      have t1 : ((c.toNat : Int) / 16).toNat = c.toNat / 16 := by omega
      have t2 : ((c.toNat : Int) % 16).toNat = c.toNat % 16 := by omega
      by_cases h1 : 32 < c.toNat
      · by_cases h2 : c.toNat < 127
        · by_cases h3 : c.toNat = 37
          · simp -implicitDefEqProofs -dsimp (maxSteps := 1000000) (disch := first | omega | (simp only [wkLen]; omega) | decide +kernel) only [↓wkPre, ↓wkPre2, ↓wkE, wkPost, wkDef, wkF, simprocAttr, e0, e3, e4, e5, gi, h1, h2, h3, str_add, ix_str, wrap_u8, hexS, g1]
            exact ⟨s.length - (i + 1), by omega, i + 1, rfl, by omega, by rw [hqt, hqb]; simp [h1, h2, h3]; decide, rfl⟩
          · by_cases h4 : c.toNat = 34
            · simp -implicitDefEqProofs -dsimp (maxSteps := 1000000) (disch := first | omega | (simp only [wkLen]; omega) | decide +kernel) only [↓wkPre, ↓wkPre2, ↓wkE, wkPost, wkDef, wkF, simprocAttr, e0, e3, e4, e5, gi, h1, h2, h3, h4, str_add, ix_str, wrap_u8, hexS, g1]
              exact ⟨s.length - (i + 1), by omega, i + 1, rfl, by omega, by rw [hqt, hqb]; simp [h1, h2, h3, h4]; decide, rfl⟩
            · simp -implicitDefEqProofs -dsimp (maxSteps := 1000000) (disch := first | omega | (simp only [wkLen]; omega) | decide +kernel) only [↓wkPre, ↓wkPre2, ↓wkE, wkPost, wkDef, wkF, simprocAttr, e0, e3, e4, e5, gi, h1, h2, h3, h4, str_add, ix_str, wrap_u8, hexS, g1]
              exact ⟨s.length - (i + 1), by omega, i + 1, rfl, by omega, by rw [hqt, hqb]; simp [h1, h2, h3, h4], rfl⟩
        · simp -implicitDefEqProofs -dsimp (maxSteps := 1000000) (disch := first | omega | (simp only [wkLen]; omega) | decide +kernel) only [↓wkPre, ↓wkPre2, ↓wkE, wkPost, wkDef, wkF, simprocAttr, e0, e3, e4, e5, gi, h1, h2, str_add, ix_str, wrap_u8, hexS, g1]
          exact ⟨s.length - (i + 1), by omega, i + 1, rfl, by omega, by rw [hqt, hqb]; simp [h1, h2, t1, t2], rfl⟩
      · simp -implicitDefEqProofs -dsimp (maxSteps := 1000000) (disch := first | omega | (simp only [wkLen]; omega) | decide +kernel) only [↓wkPre, ↓wkPre2, ↓wkE, wkPost, wkDef, wkF, simprocAttr, e0, e3, e4, e5, gi, h1, str_add, ix_str, wrap_u8, hexS, g1]
        exact ⟨s.length - (i + 1), by omega, i + 1, rfl, by omega, by rw [hqt, hqb]; simp [h1, t1, t2], rfl⟩
    · simp -implicitDefEqProofs -dsimp (maxSteps := 1000000) (disch := first | omega | (simp only [wkLen]; omega) | decide +kernel) only [↓wkPre, ↓wkPre2, ↓wkE, wkPost, wkDef, wkF, simprocAttr, e0, e3, e4, e5, str_add]
      rw [List.take_of_length_le hge]
      rfl
  · simp -implicitDefEqProofs -dsimp (maxSteps := 1000000) (disch := first | omega | (simp only [wkLen]; omega) | decide +kernel) only [↓wkPre, ↓wkPre2, ↓wkE, wkPost, wkDef, wkF, simprocAttr]
    simp [qs]
theorem elems_own {H : Heap} {v : AV} {sh : Nat} {xs : List PV} (h : OwnS H v sh xs) : elems H sh v = some xs := by
  rcases h with ⟨rfl, rfl⟩ | ⟨b, g, rfl, hb⟩
  · rfl
  · simp [elems, hb]
theorem bytes_of : ∀ s : List UInt8, bytesOf (ofBytes s) = some s
  | [] => rfl
  | c :: s => by
    have := bytes_of s
    simp only [ofBytes, List.map_cons, bytesOf, byteOf, Option.bind_some] at this ⊢
    rw [this]
    simp
theorem ob_len (s : List UInt8) : (ofBytes s).length = s.length := by simp [ofBytes]
theorem ob_app (s t : List UInt8) : ofBytes (s ++ t) = ofBytes s ++ ofBytes t := by simp [ofBytes]
theorem shr4 (c : UInt8) : ((c.toNat : Int)).fdiv (2 ^ min 4 IntKind.u8.bits) = ((c.toNat / 16 : Nat) : Int) := by
  have hc := c.toNat_lt
  rw [show (2 : Int) ^ min 4 IntKind.u8.bits = 16 by decide, Int.fdiv_eq_ediv_of_nonneg _ (by decide)]
  omega
theorem and15 (c : UInt8) : IntKind.u8.wrap ((BitVec.ofInt IntKind.u8.bits (c.toNat : Int) &&& BitVec.ofInt IntKind.u8.bits 15).toNat : Nat) = ((c.toNat % 16 : Nat) : Int) := by
  have key : ∀ n : Fin 256, IntKind.u8.wrap ((BitVec.ofInt IntKind.u8.bits (n.val : Int) &&& BitVec.ofInt IntKind.u8.bits 15).toNat : Nat) = ((n.val % 16 : Nat) : Int) := by decide +kernel
  exact key ⟨c.toNat, c.toNat_lt⟩
theorem hexG {n : Nat} (h : n < 16) : hexL[n]? = some (hx n) := by
  have key : ∀ n : Fin 16, hexL[n.val]? = some (hx n.val) := by decide
  exact key ⟨n, h⟩
theorem p16 (s : List UInt8) (h : s.length ≤ 1000000) : PS Cf okf 16 [9] [S s] (fun r => r = S (qt s)) := by
  refine PS.mk extMono Tryd.func16 body16 (by decide) rfl ?_
  simp only [c16, Tryd.f16, Option.getD_some]
  simp -implicitDefEqProofs -dsimp (maxSteps := 1000000) (disch := first | omega | (simp only [wkLen]; omega) | decide +kernel) only [↓wkPre, ↓wkPre2, ↓wkE, wkPost, wkDef, wkF, simprocAttr]
  refine loop_use extMono (fun m e H => ∃ (i : Nat) (v : AV), m = s.length - i ∧ i ≤ s.length ∧ e 0 = .p (S s) ∧ e 7 = .p (I s.length) ∧ e 8 = .p (I i) ∧ e 3 = v ∧ OwnS H v 0 (ofBytes (34 :: qs (s.take i)))) ?_ s.length _ _ ⟨0, .ref 0 0 0 1 false, rfl, by omega, ?_⟩
  · rintro m e H ⟨i, v, rfl, hi, e0, e7, e8, e3, hown⟩
    have hql := qs_len (s.take i)
    have htl : (s.take i).length ≤ 1000000 := by rw [List.length_take]; omega
    rcases Nat.lt_or_ge i s.length with hlt | hge
    · have gi : s[i]? = some s[i] := List.getElem?_eq_getElem hlt
      have hqt := qs_take hlt
      simp -implicitDefEqProofs -dsimp (maxSteps := 1000000) (disch := first | omega | (simp only [wkLen]; omega) | decide +kernel) only [↓wkPre, ↓wkPre2, ↓wkE, wkPost, wkDef, wkF, simprocAttr, e0, e7, e8, e3, ix_str, gi]
      refine PS.app md_22 Tryd.func22 (p22 s[i]) rfl ?_
      rintro _ rfl
      generalize s[i] = c at *
      have hqb : qb c = if pln c then [c] else [37, hx (c.toNat / 16), hx (c.toNat % 16)] := rfl
      have hc := c.toNat_lt
      cases hp : pln c
      · rw [hp] at hqb
        have g1 := hexG (n := c.toNat / 16) (by omega)
        have g2 := hexG (n := c.toNat % 16) (by omega)
        simp -implicitDefEqProofs -dsimp (maxSteps := 1000000) (disch := first | omega | (simp only [wkLen]; omega) | decide +kernel) only [↓wkPre, ↓wkPre2, ↓wkE, wkPost, wkDef, wkF, simprocAttr, e0, e7, e8, e3, ix_str, gi, shr4, and15, g1, g2]
        refine append_step telem_44 (elems_new rfl rfl) (by simp) (hown.app _) ?_ ?_
        · rw [byt_5, ob_len]; simp; omega
        intro w' H' hown' hfr hle hb'
        simp -implicitDefEqProofs -dsimp (maxSteps := 1000000) (disch := first | omega | (simp only [wkLen]; omega) | decide +kernel) only [↓wkPre, ↓wkPre2, ↓wkE, wkPost, wkDef, wkF, simprocAttr, e0, e7, e8, e3]
        refine ⟨s.length - (i + 1), by omega, i + 1, w', rfl, by omega, rfl, by push_cast; rfl, ?_⟩
        rw [hqt, hqb, if_neg (by decide), ← List.cons_append, ob_app]
        exact hown'
      · rw [hp] at hqb
        simp -implicitDefEqProofs -dsimp (maxSteps := 1000000) (disch := first | omega | (simp only [wkLen]; omega) | decide +kernel) only [↓wkPre, ↓wkPre2, ↓wkE, wkPost, wkDef, wkF, simprocAttr, e0, e7, e8, e3, ix_str, gi]
        refine append_step telem_44 (elems_new rfl rfl) (by simp) (hown.app _) ?_ ?_
        · rw [byt_5, ob_len]; simp; omega
        intro w' H' hown' hfr hle hb'
        simp -implicitDefEqProofs -dsimp (maxSteps := 1000000) (disch := first | omega | (simp only [wkLen]; omega) | decide +kernel) only [↓wkPre, ↓wkPre2, ↓wkE, wkPost, wkDef, wkF, simprocAttr, e0, e7, e8, e3]
        refine ⟨s.length - (i + 1), by omega, i + 1, w', rfl, by omega, rfl, by push_cast; rfl, ?_⟩
        rw [hqt, hqb, if_pos rfl, ← List.cons_append, ob_app]
        exact hown'
    · rw [List.take_of_length_le hge] at hown hql
      simp -implicitDefEqProofs -dsimp (maxSteps := 1000000) (disch := first | omega | (simp only [wkLen]; omega) | decide +kernel) only [↓wkPre, ↓wkPre2, ↓wkE, wkPost, wkDef, wkF, simprocAttr, e0, e7, e8, e3]
      refine append_step telem_44 (elems_new rfl rfl) (by simp) (hown.app _) ?_ ?_
      · rw [byt_5, ob_len]; simp; omega
      intro w' H' hown' hfr hle hb'
      rw [show ofBytes (34 :: qs s) ++ [PV.int .u8 34] = ofBytes (qt s) by rw [qt, ← List.cons_append, ob_app]; rfl] at hown'
      have hel := elems_own hown'
      have hbo := bytes_of (qt s)
      rcases hown' with ⟨rfl, hx0⟩ | ⟨b, g, rfl, hb⟩
      · simp -implicitDefEqProofs -dsimp (maxSteps := 1000000) (disch := first | omega | (simp only [wkLen]; omega) | decide +kernel) only [↓wkPre, ↓wkPre2, ↓wkE, wkPost, wkDef, wkF, simprocAttr, hel, hbo]
      · simp -implicitDefEqProofs -dsimp (maxSteps := 1000000) (disch := first | omega | (simp only [wkLen]; omega) | decide +kernel) only [↓wkPre, ↓wkPre2, ↓wkE, wkPost, wkDef, wkF, simprocAttr, hel, hbo]
  · simp -implicitDefEqProofs -dsimp (maxSteps := 1000000) (disch := first | omega | (simp only [wkLen]; omega) | decide +kernel) only [↓wkPre, ↓wkPre2, ↓wkE, wkPost, wkDef, wkF, simprocAttr]
    exact .inr ⟨0, 0, rfl, rfl⟩
end Go.Ev.F32
end
section
namespace Go.Ev.F32
open Go.Proofs Go.Ev
set_option maxRecDepth 100000
set_option linter.all false
/-- A number read on from n. -/
def numF (most n : Nat) : List UInt8 → Option Nat
  | [] => some n
  | c :: r => if 48 ≤ c.toNat ∧ c.toNat ≤ 57 ∧ 10 * n + (c.toNat - 48) ≤ most then numF most (10 * n + (c.toNat - 48)) r else none
def num (most : Nat) (s : List UInt8) : Option Nat := if s = [] ∨ 20 < s.length ∨ (s.head? = some 48 ∧ 1 < s.length) then none else numF most 0 s
theorem numF_le {most : Nat} : ∀ {s : List UInt8} {n m : Nat}, n ≤ most → numF most n s = some m → m ≤ most
  | [], n, m, hn, h => by simp [numF] at h; omega
  | c :: r, n, m, hn, h => by
    unfold numF at h
    split at h
    · exact numF_le (by omega) h
    · cases h
theorem num_le {most : Nat} {s : List UInt8} {m : Nat} (h : num most s = some m) : m ≤ most := by
  unfold num at h
  split at h
  · cases h
  · exact numF_le (Nat.zero_le _) h
theorem numF_cons (most n : Nat) (c : UInt8) (r : List UInt8) : numF most n (c :: r) = if 48 ≤ c.toNat ∧ c.toNat ≤ 57 ∧ 10 * n + (c.toNat - 48) ≤ most then numF most (10 * n + (c.toNat - 48)) r else none := rfl
theorem p30 (s : List UInt8) (most : Nat) (h9 : 9 ≤ most) (hm : most < 18446744073709551616) : PS Cf okf 30 [22, 4] [S s, U most] (fun r => r = .tup [U ((num most s).getD 0 : Nat), B (num most s).isSome]) := by
  refine PS.mk extMono Tryd.func30 body30 (by decide) rfl ?_
  simp only [c30, Tryd.f30, Option.getD_some]
  by_cases h0 : s = []
  · subst h0
    simp -implicitDefEqProofs -dsimp (maxSteps := 1000000) (disch := first | omega | (simp only [wkLen]; omega) | decide +kernel) only [↓wkPre, ↓wkPre2, ↓wkE, wkPost, wkDef, wkF, simprocAttr]
    rfl
  have hne : (s == []) = false := by cases s with | nil => exact absurd rfl h0 | cons c r => rfl
  have hpos : 0 < s.length := List.length_pos_iff.2 h0
  by_cases hl : 20 < s.length
  · have hn : num most s = none := by unfold num; rw [if_pos (.inr (.inl hl))]
    rw [hn]
    simp -implicitDefEqProofs -dsimp (maxSteps := 1000000) (disch := first | omega | (simp only [wkLen]; omega) | decide +kernel) only [↓wkPre, ↓wkPre2, ↓wkE, wkPost, wkDef, wkF, simprocAttr, hne]
    rfl
  have g0 : s[0]? = some s[0] := List.getElem?_eq_getElem hpos
  have hh : s.head? = some s[0] := by rw [List.head?_eq_getElem?]; exact g0
  by_cases hz : s[0] = 48 ∧ 1 < s.length
  · have hn : num most s = none := by unfold num; rw [if_pos (.inr (.inr ⟨by rw [hh, hz.1], hz.2⟩))]
    have hz0 : s[0].toNat = 48 := by rw [hz.1]; rfl
    have hz1 := hz.2
    rw [hn]
    generalize s[0] = c0 at *
    simp -implicitDefEqProofs -dsimp (maxSteps := 1000000) (disch := first | omega | (simp only [wkLen]; omega) | decide +kernel) only [↓wkPre, ↓wkPre2, ↓wkE, wkPost, wkDef, wkF, simprocAttr, hne, ix_str, g0, hz0]
    rfl
  have hn : num most s = numF most 0 s := by
    unfold num; rw [if_neg]
    rintro (h | h | ⟨h, h'⟩)
    · exact h0 h
    · exact hl h
    · rw [hh] at h; exact hz ⟨by simpa using h, h'⟩
  rw [hn]
  clear hn
  simp -implicitDefEqProofs -dsimp (maxSteps := 1000000) (disch := first | omega | (simp only [wkLen]; omega) | decide +kernel) only [↓wkPre, ↓wkPre2, ↓evC_region_st [1], ↓evC_text_st [1], ↓evC_cond, ↓evC_block, ↓evC_stop [1], wkPost, wkDef, wkF, simprocAttr]
  refine stop_cut extMono (fun e H => e 0 = .p (S s) ∧ e 1 = .p (U most) ∧ e 25 = .p (B false)) ?_ ?_
  · by_cases hz0 : s[0].toNat = 48
    · have hl1 : s.length = 1 := by
        have : ¬ 1 < s.length := fun h => hz ⟨UInt8.toNat_inj.1 hz0, h⟩
        omega
      simp -implicitDefEqProofs -dsimp (maxSteps := 1000000) (disch := first | omega | (simp only [wkLen]; omega) | decide +kernel) only [↓wkPre, ↓wkPre2, ↓wkE, wkPost, wkDef, wkF, simprocAttr, hne, ix_str, g0, hz0]
      simp [hl1]
    · simp -implicitDefEqProofs -dsimp (maxSteps := 1000000) (disch := first | omega | (simp only [wkLen]; omega) | decide +kernel) only [↓wkPre, ↓wkPre2, ↓wkE, wkPost, wkDef, wkF, simprocAttr, hne, ix_str, g0, hz0]
  rintro e H ⟨e0, e1, e25⟩
  simp -implicitDefEqProofs -dsimp (maxSteps := 1000000) (disch := first | omega | (simp only [wkLen]; omega) | decide +kernel) only [↓wkPre, ↓wkPre2, ↓wkE, wkPost, wkDef, wkF, simprocAttr, e0, e1, e25]
  refine loop_use extMono (fun m e H => ∃ (i n : Nat), m = s.length - i ∧ i ≤ s.length ∧ e 0 = .p (S s) ∧ e 1 = .p (U most) ∧ e 6 = .p (U n) ∧ e 27 = .p (I s.length) ∧ e 28 = .p (I i) ∧ n ≤ most ∧ numF most n (s.drop i) = numF most 0 s) ?_ s.length _ _ ⟨0, 0, rfl, by omega, ?_⟩
  · rintro m e H ⟨i, n, rfl, hi, e0, e1, e6, e27, e28, hn, hq⟩
    rcases Nat.lt_or_ge i s.length with hlt | hge
    · have gi : s[i]? = some s[i] := List.getElem?_eq_getElem hlt
      rw [List.drop_eq_getElem_cons hlt] at hq
      generalize s[i] = c at *
      have hc := c.toNat_lt
      rw [numF_cons] at hq
      by_cases h1 : c.toNat < 48
      · rw [if_neg (by omega)] at hq
        simp -implicitDefEqProofs -dsimp (maxSteps := 1000000) (disch := first | omega | (simp only [wkLen]; omega) | decide +kernel) only [↓wkPre, ↓wkPre2, ↓wkE, wkPost, wkDef, wkF, simprocAttr, e0, e1, e6, e27, e28, ix_str, gi]
        rw [← hq]; rfl
      by_cases h2 : 57 < c.toNat
      · rw [if_neg (by omega)] at hq
        simp -implicitDefEqProofs -dsimp (maxSteps := 1000000) (disch := first | omega | (simp only [wkLen]; omega) | decide +kernel) only [↓wkPre, ↓wkPre2, ↓wkE, wkPost, wkDef, wkF, simprocAttr, e0, e1, e6, e27, e28, ix_str, gi]
        rw [← hq]; rfl
      by_cases h3 : 10 * n + (c.toNat - 48) ≤ most
      · rw [if_pos (by omega)] at hq
        simp -implicitDefEqProofs -dsimp (maxSteps := 1000000) (disch := first | omega | (simp only [wkLen]; omega) | decide +kernel) only [↓wkPre, ↓wkPre2, ↓wkE, wkPost, wkDef, wkF, simprocAttr, e0, e1, e6, e27, e28, ix_str, gi]
        exact ⟨s.length - (i + 1), by omega, i + 1, 10 * n + (c.toNat - 48), rfl, by omega, by congr 2; push_cast; omega, by push_cast; rfl, h3, hq⟩
      · rw [if_neg (by omega)] at hq
        simp -implicitDefEqProofs -dsimp (maxSteps := 1000000) (disch := first | omega | (simp only [wkLen]; omega) | decide +kernel) only [↓wkPre, ↓wkPre2, ↓wkE, wkPost, wkDef, wkF, simprocAttr, e0, e1, e6, e27, e28, ix_str, gi]
        rw [← hq]; rfl
    · rw [List.drop_of_length_le hge] at hq
      simp -implicitDefEqProofs -dsimp (maxSteps := 1000000) (disch := first | omega | (simp only [wkLen]; omega) | decide +kernel) only [↓wkPre, ↓wkPre2, ↓wkE, wkPost, wkDef, wkF, simprocAttr, e0, e1, e6, e27, e28]
      rw [← hq]; rfl
  · simp -implicitDefEqProofs -dsimp (maxSteps := 1000000) (disch := first | omega | (simp only [wkLen]; omega) | decide +kernel) only [↓wkPre, ↓wkPre2, ↓wkE, wkPost, wkDef, wkF, simprocAttr, e0, e1, e25]
    exact Nat.zero_le _
/-- A number that may be below 0. -/
def wnum (s : List UInt8) : Option Int := match s with
  | 45 :: r => (num 9223372036854775808 r).bind fun n => if 0 < n then some (-(n : Int)) else none
  | s => (num 9223372036854775807 s).map Int.ofNat
theorem ext_call {C : Cfg} {X : Tr} {f : FuncId} {args : List AV} {H : Heap} {k : AV → Heap → Prop} {t : Tag k} {spec : List AV → Heap → (AV → Heap → Prop) → Prop} (hm : C.md f = .ext spec) (h : spec args H k) : evCallT C X f args H k t := by
  unfold evCallT evCall
  rw [hm]
  exact h
theorem p30n {s : List UInt8} {most : Nat} (h9 : 9 ≤ most) (hm : most < 18446744073709551616) (h : num most s = none) : PS Cf okf 30 [22, 4] [S s, U most] (fun r => r = .tup [U 0, B false]) := by
  have := p30 s most h9 hm
  rw [h] at this
  exact this
theorem p30s {s : List UInt8} {most n : Nat} (h9 : 9 ≤ most) (hm : most < 18446744073709551616) (h : num most s = some n) : PS Cf okf 30 [22, 4] [S s, U most] (fun r => r = .tup [U n, B true]) := by
  have := p30 s most h9 hm
  rw [h] at this
  exact this
theorem neg63 {n : Nat} (h : n ≤ 9223372036854775808) : IntKind.i64.wrap (0 - IntKind.i64.wrap (n : Int)) = -(n : Int) := by
  simp [IntKind.wrap, IntKind.bits, IntKind.signed]
  omega
theorem p33 (s : List UInt8) : PS Cf okf 33 [3, 4] [S s] (fun r => r = .tup [I ((wnum s).getD 0), B (wnum s).isSome]) := by
  refine PS.mk extMono Tryd.func33 body33 (by decide) rfl ?_
  simp only [c33, Tryd.f33, Option.getD_some]
  simp -implicitDefEqProofs -dsimp (maxSteps := 1000000) (disch := first | omega | (simp only [wkLen]; omega) | decide +kernel) only [↓wkPre, ↓wkPre2, ↓wkE, wkPost, wkDef, wkF, simprocAttr]
  refine ext_call md_40 ⟨s, [45], rfl, ?_⟩
  by_cases h : Lib.hasPrefix s [45] = true
  · obtain ⟨r, rfl⟩ : ∃ r, s = 45 :: r := by
      cases s with
      | nil => simp [Lib.hasPrefix, List.isPrefixOf] at h
      | cons c r => simp [Lib.hasPrefix, List.isPrefixOf] at h; subst h; exact ⟨r, rfl⟩
    have ht : Lib.trimPrefix (45 :: r) [45] = r := by unfold Lib.trimPrefix; rw [if_pos h]; rfl
    rw [h, ht]
    simp -implicitDefEqProofs -dsimp (maxSteps := 1000000) (disch := first | omega | (simp only [wkLen]; omega) | decide +kernel) only [↓wkPre, ↓wkPre2, ↓wkE, wkPost, wkDef, wkF, simprocAttr]
    cases hr : num 9223372036854775808 r with
    | none =>
      have hw : wnum (45 :: r) = none := by simp [wnum, hr]
      rw [hw]
      refine PS.app md_30 Tryd.func30 (p30n (by omega) (by omega) hr) rfl ?_
      rintro _ rfl
      simp -implicitDefEqProofs -dsimp (maxSteps := 1000000) (disch := first | omega | (simp only [wkLen]; omega) | decide +kernel) only [↓wkPre, ↓wkPre2, ↓wkE, wkPost, wkDef, wkF, simprocAttr]
      rfl
    | some n =>
      have hn := num_le hr
      refine PS.app md_30 Tryd.func30 (p30s (by omega) (by omega) hr) rfl ?_
      rintro _ rfl
      by_cases h0 : 0 < n
      · have hw : wnum (45 :: r) = some (-(n : Int)) := by simp [wnum, hr, h0]
        rw [hw]
        simp -implicitDefEqProofs -dsimp (maxSteps := 1000000) (disch := first | omega | (simp only [wkLen]; omega) | decide +kernel) only [↓wkPre, ↓wkPre2, ↓wkE, wkPost, wkDef, wkF, simprocAttr]
        rw [neg63 (by omega), decide_eq_true (by omega)]
        rfl
      · have hw : wnum (45 :: r) = none := by simp [wnum, hr, h0]
        rw [hw]
        obtain rfl : n = 0 := by omega
        simp -implicitDefEqProofs -dsimp (maxSteps := 1000000) (disch := first | omega | (simp only [wkLen]; omega) | decide +kernel) only [↓wkPre, ↓wkPre2, ↓wkE, wkPost, wkDef, wkF, simprocAttr]
        rfl
  · have h' : Lib.hasPrefix s [45] = false := by simpa using h
    have hw : wnum s = (num 9223372036854775807 s).map Int.ofNat := by
      unfold wnum
      split
      · simp [Lib.hasPrefix, List.isPrefixOf] at h
      · rfl
    rw [h', hw]
    simp -implicitDefEqProofs -dsimp (maxSteps := 1000000) (disch := first | omega | (simp only [wkLen]; omega) | decide +kernel) only [↓wkPre, ↓wkPre2, ↓wkE, wkPost, wkDef, wkF, simprocAttr]
    cases hr : num 9223372036854775807 s with
    | none =>
      refine PS.app md_30 Tryd.func30 (p30n (by omega) (by omega) hr) rfl ?_
      rintro _ rfl
      simp -implicitDefEqProofs -dsimp (maxSteps := 1000000) (disch := first | omega | (simp only [wkLen]; omega) | decide +kernel) only [↓wkPre, ↓wkPre2, ↓wkE, wkPost, wkDef, wkF, simprocAttr]
      rfl
    | some n =>
      have hn := num_le hr
      refine PS.app md_30 Tryd.func30 (p30s (by omega) (by omega) hr) rfl ?_
      rintro _ rfl
      simp -implicitDefEqProofs -dsimp (maxSteps := 1000000) (disch := first | omega | (simp only [wkLen]; omega) | decide +kernel) only [↓wkPre, ↓wkPre2, ↓wkE, wkPost, wkDef, wkF, simprocAttr]
      rfl
theorem allP_map : ∀ l : List PV, allP (l.map AV.p) = some l
  | [] => rfl
  | x :: l => by simp [allP, allP_map l]
theorem mkAgg_p (l : List PV) : mkAgg (l.map AV.p) = .p (.agg l) := by simp [mkAgg, allP_map]
theorem withA_p {cs : List PV} {off : Nat} {v : PV} (h : off < cs.length) (h2 : 2 ≤ cs.length) (hs : v.shape = 0) (ht : v.stor = true) (hc : v.cells = [v]) : withA (.p (.agg cs)) off 0 (.p v) = some (.p (.agg (cs.set off v))) := by
  have hvs : (AV.p v).shape = 0 := by rw [AV.shape_p]; exact hs
  have hsh : (AV.p (.agg cs)).shape = cs.length := rfl
  have hcc : (AV.p v).cells = [.p v] := by cases v <;> first | rfl | (simp [PV.shape] at hs; subst hs; simp [PV.cells] at hc)
  unfold withA
  rw [if_pos ⟨hvs, ht, rfl⟩, if_neg (by rw [hsh]; omega), if_pos ⟨by simp [AV.cells, stride]; omega, by rw [hsh]; omega⟩, hcc]
  simp only [AV.cells, setR]
  rw [← List.map_set, mkAgg_p]
theorem upd32 {n : Nat} (h : n ≤ 4294967295) : IntKind.u32.wrap (n : Int) = n := by
  simp [IntKind.wrap, IntKind.bits, IntKind.signed]
  omega
theorem w31 (s : List UInt8) (b off : Nat) (cs : List PV) (H : Heap) (hb : H[b]? = some (.var true (.p (.agg cs)))) (ho : off < cs.length) (h2 : 2 ≤ cs.length) (Q : AV → Heap → Prop)
    (hq : Q (.p (B (num 4294967295 s).isSome)) (H.set b (.var true (.p (.agg (cs.set off (.int .u32 ((num 4294967295 s).getD 0 : Nat)))))))) : (W Cf okf).call 31 [.p (S s), .vptr b off] H Q := by
  refine top_mk extMono Tryd.func31 body31 (by decide) rfl ?_
  simp only [c31, Tryd.f31, Option.getD_some]
  simp -implicitDefEqProofs -dsimp (maxSteps := 1000000) (disch := first | omega | (simp only [wkLen]; omega) | decide +kernel) only [↓wkPre, ↓wkPre2, ↓wkE, wkPost, wkDef, wkF, simprocAttr]
  refine PS.app md_30 Tryd.func30 (p30 s 4294967295 (by omega) (by omega)) rfl ?_
  rintro _ rfl
  have hn : (num 4294967295 s).getD 0 ≤ 4294967295 := by
    cases hr : num 4294967295 s with
    | none => simp
    | some n => exact num_le hr
  generalize (num 4294967295 s).getD 0 = n at *
  have hw : ∀ v, withA (.p (.agg cs)) off 0 (.p (.int .u32 v)) = some (.p (.agg (cs.set off (.int .u32 v)))) := fun v => withA_p ho h2 rfl rfl rfl
  simp -implicitDefEqProofs -dsimp (maxSteps := 1000000) (disch := first | omega | (simp only [wkLen]; omega) | decide +kernel) only [↓wkPre, ↓wkPre2, ↓wkE, wkPost, wkDef, wkF, simprocAttr, hb, hw, upd32, nonNil]
  rw [← List.map_set, allP_map]
  exact hq
end Go.Ev.F32
end
section
namespace Go.Ev.F32
open Go.Proofs Go.Ev
set_option maxRecDepth 100000
set_option linter.all false
/-- A digit of sixteen's worth. -/
def hxv (c : UInt8) : Option Nat := if Lib.indexByte hexL c < 0 then none else some (Lib.indexByte hexL c).toNat
/-- What stands between quotes, read. -/
def uqF : List UInt8 → Option (List UInt8)
  | [] => some []
  | c :: r => if c.toNat = 37 then (match r with
      | a :: b :: r => (hxv a).bind fun i => (hxv b).bind fun j => if pln (UInt8.ofNat (16 * i + j)) then none else (uqF r).map (UInt8.ofNat (16 * i + j) :: ·)
      | _ => none)
    else if pln c then (uqF r).map (c :: ·) else none
def uq (s : List UInt8) : Option (List UInt8) := if s.length < 2 ∨ s[0]? ≠ some 34 ∨ s[s.length - 1]? ≠ some 34 then none else uqF ((s.take (s.length - 1)).drop 1)
theorem uqF_p {c : UInt8} (r : List UInt8) (h : c.toNat ≠ 37) : uqF (c :: r) = if pln c then (uqF r).map (c :: ·) else none := by
  rw [uqF.eq_def]; simp only; rw [if_neg h]
theorem uqF_e {c a b : UInt8} (r : List UInt8) (h : c.toNat = 37) : uqF (c :: a :: b :: r) = (hxv a).bind fun i => (hxv b).bind fun j => if pln (UInt8.ofNat (16 * i + j)) then none else (uqF r).map (UInt8.ofNat (16 * i + j) :: ·) := by
  rw [uqF.eq_def]; simp only; rw [if_pos h]
theorem uqF_s {c : UInt8} (r : List UInt8) (h : c.toNat = 37) (hr : r.length < 2) : uqF (c :: r) = none := by
  rw [uqF.eq_def]; simp only; rw [if_pos h]
  match r, hr with
  | [], _ => rfl
  | [_], _ => rfl
theorem hex_lt (c : UInt8) : Lib.indexByte hexL c < 16 ∧ -1 ≤ Lib.indexByte hexL c := by
  have key : ∀ n : Fin 256, Lib.indexByte hexL (UInt8.ofNat n.val) < 16 ∧ -1 ≤ Lib.indexByte hexL (UInt8.ofNat n.val) := by decide +kernel
  have := key ⟨c.toNat, c.toNat_lt⟩
  rwa [UInt8.ofNat_toNat] at this
theorem u8_back (c : UInt8) : ((c.toNat : Int)).toNat.toUInt8 = c := by simp
theorem orL {a b : Nat} (ha : a < 16) (hb : b < 16) : IntKind.u8.wrap (IntKind.i64.wrap ((BitVec.ofInt IntKind.i64.bits (IntKind.i64.wrap ((a : Int) * 2 ^ min 4 IntKind.i64.bits)) ||| BitVec.ofInt IntKind.i64.bits (b : Int)).toNat : Nat)) = ((UInt8.ofNat (16 * a + b)).toNat : Int) := by
  have key : ∀ a b : Fin 16, IntKind.u8.wrap (IntKind.i64.wrap ((BitVec.ofInt IntKind.i64.bits (IntKind.i64.wrap ((a.val : Int) * 2 ^ min 4 IntKind.i64.bits)) ||| BitVec.ofInt IntKind.i64.bits (b.val : Int)).toNat : Nat)) = ((UInt8.ofNat (16 * a.val + b.val)).toNat : Int) := by decide +kernel
  exact key ⟨a, ha⟩ ⟨b, hb⟩
theorem p32 (s : List UInt8) (h : s.length ≤ 1000000) : PS Cf okf 32 [9, 4] [S s] (fun r => r = .tup [S ((uq s).getD []), B (uq s).isSome]) := by
  refine PS.mk extMono Tryd.func32 body32 (by decide) rfl ?_
  simp only [c32, Tryd.f32, Option.getD_some]
  by_cases h2 : s.length < 2
  · have hu : uq s = none := by unfold uq; rw [if_pos (.inl h2)]
    rw [hu]
    simp -implicitDefEqProofs -dsimp (maxSteps := 1000000) (disch := first | omega | (simp only [wkLen]; omega) | decide +kernel) only [↓wkPre, ↓wkPre2, ↓wkE, wkPost, wkDef, wkF, simprocAttr]
    rfl
  have g0 : s[0]? = some s[0] := List.getElem?_eq_getElem (by omega)
  have g1 : s[s.length - 1]? = some s[s.length - 1] := List.getElem?_eq_getElem (by omega)
  have g1' : s[((s.length : Int) - 1).toNat]? = some s[s.length - 1] := by rw [show ((s.length : Int) - 1).toNat = s.length - 1 by omega]; exact g1
  by_cases h0 : s[0].toNat = 34
  · by_cases h1 : s[s.length - 1].toNat = 34
    · have hu : uq s = uqF ((s.take (s.length - 1)).drop 1) := by
        unfold uq; rw [if_neg]
        rintro (h | h | h)
        · exact h2 h
        · exact h (by rw [g0, UInt8.toNat_inj.1 (show s[0].toNat = (34 : UInt8).toNat from h0)])
        · exact h (by rw [g1, UInt8.toNat_inj.1 (show s[s.length - 1].toNat = (34 : UInt8).toNat from h1)])
      rw [hu]
      have hsl : List.drop 1 (List.take ((s.length : Int) - 1).toNat s) = (s.take (s.length - 1)).drop 1 := by rw [show ((s.length : Int) - 1).toNat = s.length - 1 by omega]
      have htl : ((s.take (s.length - 1)).drop 1).length ≤ 1000000 := by simp; omega
      generalize (s.take (s.length - 1)).drop 1 = t at *
      simp -implicitDefEqProofs -dsimp (maxSteps := 1000000) (disch := first | omega | (simp only [wkLen]; omega) | decide +kernel) only [↓wkPre, ↓wkPre2, ↓wkE, wkPost, wkDef, wkF, simprocAttr, ix_str, g0, g1', h0, h1, hsl]
      clear hsl g0 g1 g1' h0 h1 h2 hu
      refine loop_use extMono (fun m e H => ∃ (i : Nat) (v : AV) (done : List UInt8), m = t.length - i ∧ i ≤ t.length ∧ e 0 = .p (S t) ∧ e 4 = v ∧ e 5 = .p (I i) ∧ OwnS H v 0 (ofBytes done) ∧ done.length ≤ i ∧ uqF t = (uqF (t.drop i)).map (done ++ ·)) ?_ t.length _ _ ⟨0, .nsl, [], rfl, by omega, ?_⟩
      · rintro m e H ⟨i, v, done, rfl, hi, e0, e4, e5, hown, hdl, hq⟩
        rcases Nat.lt_or_ge i t.length with hlt | hge
        · have gi : t[i]? = some t[i] := List.getElem?_eq_getElem hlt
          have hdr := List.drop_eq_getElem_cons hlt
          rw [hdr] at hq
          generalize t[i] = c at *
          by_cases hc : c.toNat = 37
          · by_cases h2 : t.length ≤ i + 2
            · rw [uqF_s _ hc (by simp; omega)] at hq
              rw [hq]
              simp -implicitDefEqProofs -dsimp (maxSteps := 1000000) (disch := first | omega | (simp only [wkLen]; omega) | decide +kernel) only [↓wkPre, ↓wkPre2, ↓wkE, wkPost, wkDef, wkF, simprocAttr, e0, e4, e5, ix_str, gi, hc]
              rfl
            · have ga : t[i + 1]? = some t[i + 1] := List.getElem?_eq_getElem (by omega)
              have gb : t[i + 2]? = some t[i + 2] := List.getElem?_eq_getElem (by omega)
              have ga' : t[((i : Int) + 1).toNat]? = some t[i + 1] := by rw [show ((i : Int) + 1).toNat = i + 1 by omega]; exact ga
              have gb' : t[((i : Int) + 2).toNat]? = some t[i + 2] := by rw [show ((i : Int) + 2).toNat = i + 2 by omega]; exact gb
              rw [List.drop_eq_getElem_cons (show i + 1 < t.length by omega), List.drop_eq_getElem_cons (show i + 1 + 1 < t.length by omega), uqF_e _ hc] at hq
              simp -implicitDefEqProofs -dsimp (maxSteps := 1000000) (disch := first | omega | (simp only [wkLen]; omega) | decide +kernel) only [↓wkPre, ↓wkPre2, ↓evC_region_st [14], ↓evC_text_st [14], ↓evC_cond, ↓evC_block, ↓evC_stop [14], wkPost, wkDef, wkF, simprocAttr, e0, e4, e5, ix_str, gi, hc]
              refine stop_pl pl_32_14 (by kernel_rfl) (by decide +kernel) ?_
              simp only [pl_32_14]
              simp -implicitDefEqProofs -dsimp (maxSteps := 1000000) (disch := first | omega | (simp only [wkLen]; omega) | decide +kernel) only [↓wkPre, ↓wkPre2, ↓wkE, wkPost, wkDef, wkF, simprocAttr, e0, e4, e5, ix_str, ga', gb']
              refine ext_call md_39 ⟨hexL, _, rfl, ?_⟩
              rw [u8_back]
              simp -implicitDefEqProofs -dsimp (maxSteps := 1000000) (disch := first | omega | (simp only [wkLen]; omega) | decide +kernel) only [↓wkPre, ↓wkPre2, ↓wkE, wkPost, wkDef, wkF, simprocAttr, e0, e4, e5, ix_str, ga', gb']
              refine ext_call md_39 ⟨hexL, _, rfl, ?_⟩
              rw [u8_back]
              have hxa : hxv t[i + 1] = if Lib.indexByte hexL t[i + 1] < 0 then none else some (Lib.indexByte hexL t[i + 1]).toNat := rfl
              have hxb : hxv t[i + 1 + 1] = if Lib.indexByte hexL t[i + 1 + 1] < 0 then none else some (Lib.indexByte hexL t[i + 1 + 1]).toNat := rfl
              have ka := hex_lt t[i + 1]
              have kb := hex_lt t[i + 1 + 1]
              generalize Lib.indexByte hexL t[i + 1] = ia at *
              generalize Lib.indexByte hexL t[i + 1 + 1] = ib at *
              by_cases h3 : ia < 0
              · rw [if_pos h3] at hxa
                rw [hxa] at hq
                rw [hq]
                simp -implicitDefEqProofs -dsimp (maxSteps := 1000000) (disch := first | omega | (simp only [wkLen]; omega) | decide +kernel) only [↓wkPre, ↓wkPre2, ↓wkE, wkPost, wkDef, wkF, simprocAttr, e0, e4, e5]
                rfl
              rw [if_neg h3] at hxa
              by_cases h4 : ib < 0
              · rw [if_pos h4] at hxb
                rw [hxa, hxb] at hq
                rw [hq]
                simp -implicitDefEqProofs -dsimp (maxSteps := 1000000) (disch := first | omega | (simp only [wkLen]; omega) | decide +kernel) only [↓wkPre, ↓wkPre2, ↓wkE, wkPost, wkDef, wkF, simprocAttr, e0, e4, e5]
                rfl
              rw [if_neg h4] at hxb
              rw [hxa, hxb] at hq
              obtain ⟨na, rfl⟩ : ∃ n : Nat, ia = n := ⟨ia.toNat, by omega⟩
              obtain ⟨nb, rfl⟩ : ∃ n : Nat, ib = n := ⟨ib.toNat, by omega⟩
              simp only [Int.toNat_natCast, Option.bind_some] at hq
              have hor := orL (show na < 16 by omega) (show nb < 16 by omega)
              simp -implicitDefEqProofs -dsimp (maxSteps := 1000000) (disch := first | omega | (simp only [wkLen]; omega) | decide +kernel) only [↓wkPre, ↓wkPre2, ↓wkE, wkPost, wkDef, wkF, simprocAttr, e0, e4, e5]
              rw [hor]
              generalize UInt8.ofNat (16 * na + nb) = cc at *
              refine PS.app md_22 Tryd.func22 (p22 cc) rfl ?_
              rintro _ rfl
              cases hp : pln cc
              · rw [hp, if_neg (by decide)] at hq
                simp -implicitDefEqProofs -dsimp (maxSteps := 1000000) (disch := first | omega | (simp only [wkLen]; omega) | decide +kernel) only [↓wkPre, ↓wkPre2, ↓wkE, wkPost, wkDef, wkF, simprocAttr, e0, e4, e5, hor]
                refine append_step telem_44 (elems_new rfl rfl) (by simp) (hown.app _) ?_ ?_
                · rw [byt_5, ob_len]; simp; omega
                intro w' H' hown' hfr hle hb'
                simp -implicitDefEqProofs -dsimp (maxSteps := 1000000) (disch := first | omega | (simp only [wkLen]; omega) | decide +kernel) only [↓wkPre, ↓wkPre2, ↓wkE, wkPost, wkDef, wkF, simprocAttr, e0, e4, e5]
                refine ⟨t.length - (i + 3), by omega, i + 3, w', done ++ [cc], rfl, by omega, rfl, by push_cast; congr 2, by rw [ob_app]; exact hown', by simp; omega, ?_⟩
                rw [hq, Option.map_map]; congr 1; funext x; simp
              · rw [hp, if_pos rfl] at hq
                rw [hq]
                simp -implicitDefEqProofs -dsimp (maxSteps := 1000000) (disch := first | omega | (simp only [wkLen]; omega) | decide +kernel) only [↓wkPre, ↓wkPre2, ↓wkE, wkPost, wkDef, wkF, simprocAttr, e0, e4, e5]
                rfl
          · rw [uqF_p _ hc] at hq
            simp -implicitDefEqProofs -dsimp (maxSteps := 1000000) (disch := first | omega | (simp only [wkLen]; omega) | decide +kernel) only [↓wkPre, ↓wkPre2, ↓wkE, wkPost, wkDef, wkF, simprocAttr, e0, e4, e5, ix_str, gi, hc]
            refine PS.app md_22 Tryd.func22 (p22 c) rfl ?_
            rintro _ rfl
            cases hp : pln c
            · rw [hp] at hq
              rw [hq]
              simp -implicitDefEqProofs -dsimp (maxSteps := 1000000) (disch := first | omega | (simp only [wkLen]; omega) | decide +kernel) only [↓wkPre, ↓wkPre2, ↓wkE, wkPost, wkDef, wkF, simprocAttr]
              rfl
            · rw [hp, if_pos rfl] at hq
              simp -implicitDefEqProofs -dsimp (maxSteps := 1000000) (disch := first | omega | (simp only [wkLen]; omega) | decide +kernel) only [↓wkPre, ↓wkPre2, ↓wkE, wkPost, wkDef, wkF, simprocAttr, e0, e4, e5, ix_str, gi]
              refine append_step telem_44 (elems_new rfl rfl) (by simp) (hown.app _) ?_ ?_
              · rw [byt_5, ob_len]; simp; omega
              intro w' H' hown' hfr hle hb'
              simp -implicitDefEqProofs -dsimp (maxSteps := 1000000) (disch := first | omega | (simp only [wkLen]; omega) | decide +kernel) only [↓wkPre, ↓wkPre2, ↓wkE, wkPost, wkDef, wkF, simprocAttr, e0, e4, e5]
              refine ⟨t.length - (i + 1), by omega, i + 1, w', done ++ [c], rfl, by omega, rfl, by push_cast; rfl, by rw [ob_app]; exact hown', by simp; omega, ?_⟩
              rw [hq, Option.map_map]; congr 1; funext x; simp
        · rw [List.drop_of_length_le hge] at hq
          have hq' : uqF t = some done := by rw [hq]; simp [uqF]
          rw [hq']
          have hel := elems_own hown
          have hbo := bytes_of done
          rcases hown with ⟨rfl, hx0⟩ | ⟨b, g, rfl, hb⟩
          · simp -implicitDefEqProofs -dsimp (maxSteps := 1000000) (disch := first | omega | (simp only [wkLen]; omega) | decide +kernel) only [↓wkPre, ↓wkPre2, ↓wkE, wkPost, wkDef, wkF, simprocAttr, e0, e4, e5, hel, hbo]
            rfl
          · simp -implicitDefEqProofs -dsimp (maxSteps := 1000000) (disch := first | omega | (simp only [wkLen]; omega) | decide +kernel) only [↓wkPre, ↓wkPre2, ↓wkE, wkPost, wkDef, wkF, simprocAttr, e0, e4, e5, hel, hbo]
            rfl
      · simp -implicitDefEqProofs -dsimp (maxSteps := 1000000) (disch := first | omega | (simp only [wkLen]; omega) | decide +kernel) only [↓wkPre, ↓wkPre2, ↓wkE, wkPost, wkDef, wkF, simprocAttr]
        exact ⟨OwnS.nil _ _, by simp⟩
    · have hu : uq s = none := by
        unfold uq; rw [if_pos (.inr (.inr fun e => h1 (by rw [g1] at e; rw [Option.some.inj e]; rfl)))]
      rw [hu]
      simp -implicitDefEqProofs -dsimp (maxSteps := 1000000) (disch := first | omega | (simp only [wkLen]; omega) | decide +kernel) only [↓wkPre, ↓wkPre2, ↓wkE, wkPost, wkDef, wkF, simprocAttr, ix_str, g0, g1', h0, h1]
      rfl
  · have hu : uq s = none := by
      unfold uq; rw [if_pos (.inr (.inl fun e => h0 (by rw [g0] at e; rw [Option.some.inj e]; rfl)))]
    rw [hu]
    simp -implicitDefEqProofs -dsimp (maxSteps := 1000000) (disch := first | omega | (simp only [wkLen]; omega) | decide +kernel) only [↓wkPre, ↓wkPre2, ↓wkE, wkPost, wkDef, wkF, simprocAttr, ix_str, g0, h0]
    rfl
end Go.Ev.F32
end
