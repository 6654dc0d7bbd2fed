/- The evaluator of a program's code: values, operations, transformers, and what they stand for. No condition. -/
import Derived.CallsIn
import Derived.RangeFuncLeaves
import Derived.WalkKit
set_option linter.all false
section
/- THE ABSTRACT EVALUATOR: values, heap, and what each operation of the model's code does to them. -/
namespace Go.Ev

/-- Data without any live memory. -/
inductive PV where
  | bool (b : Bool)
  | int (k : IntKind) (n : Int)
  | str (s : List UInt8)
  | agg (xs : List PV)
  | tup (xs : List PV)
  | sl (sh : Nat) (xs : List PV)
  | nptr
  | fp (x : PV) (sh off : Nat)
  | nfn
  | fn (f : FuncId) (caps : List PV)
  | nmap
  | fmap (ks vs : List PV)
  | nif
  | iface (t : TypeId) (x : PV)
  deriving Inhabited

/-- Values: data, or what leads into the live heap. -/
inductive AV where
  | p (x : PV)
  | undef
  | nsl
  | agg (xs : List AV)
  | tup (xs : List AV)
  | ref (b g off len : Nat) (ex : Bool)
  | vptr (b off : Nat)
  | eptr (b g i off : Nat)
  | fn (f : FuncId) (caps : List AV)
  | yld (b : Nat)
  | map (b : Nat)
  | it (b : Nat)
  | stm (b g j : Nat)
  deriving Inhabited

inductive Ex where
  | normal | exit (id : Nat) | goto (l : Nat) | ret

abbrev Env := Nat → AV

inductive Blk where
  | arr (live : Bool) (g sh : Nat) (xs : List PV)
  | var (live : Bool) (x : AV)
  | map (live : Bool) (g : Nat) (ks : List PV) (vs : List AV)
  | mit (b g : Nat) (todo : List Nat)
  | fit (ks vs : List PV) (todo : List Nat)
  | loop (st : LoopState) (pend : Option Ex) (env : Env) (params : Array Tmp) (assign body : Code)

abbrev Heap := List Blk

/-- A mark that keeps simp out of what it marks. -/
structure Tag {α : Type} (k : α) : Type where
def oK {α : Type} (o : Option α) (k : α → Prop) (_ : Tag k := {}) : Prop := match o with | some x => k x | none => False
theorem oK_some {α : Type} (x : α) (k : α → Prop) (t : Tag k) : oK (some x) k t = k x := rfl
/-- Two ways. -/
def cK (b : Bool) (p q : Unit → Prop) (_ : Tag p := {}) (_ : Tag q := {}) : Prop := match b with | true => p () | false => q ()
theorem cK_true (p q : Unit → Prop) (t : Tag p) (u : Tag q) : cK true p q t u = p () := rfl
theorem cK_false (p q : Unit → Prop) (t : Tag p) (u : Tag q) : cK false p q t u = q () := rfl
theorem cK_intro {b : Bool} {p q : Unit → Prop} {t : Tag p} {u : Tag q} (h : b = true → p ()) (h' : b = false → q ()) : cK b p q t u := by cases b; exact h' rfl; exact h rfl

def stride (sh : Nat) : Nat := if sh = 0 then 1 else sh

/-! ### pieces -/
def PV.cells : PV → List PV
  | .agg xs => xs
  | x => [x]
def PV.shape : PV → Nat
  | .agg xs => xs.length
  | _ => 0
def AV.cells : AV → List AV
  | .p (.agg xs) => xs.map AV.p
  | .agg xs => xs
  | x => [x]
def AV.shape : AV → Nat
  | .p (.agg xs) => xs.length
  | .agg xs => xs.length
  | _ => 0

def allP : List AV → Option (List PV)
  | [] => some []
  | .p y :: r => (allP r).map (y :: ·)
  | _ => none
def mkAgg (xs : List AV) : AV := match allP xs with | some ys => .p (.agg ys) | none => .agg xs
def mkTup (xs : List AV) : AV := match allP xs with | some ys => .p (.tup ys) | none => .tup xs
def mkFn (f : FuncId) (xs : List AV) : AV := match allP xs with | some ys => .p (.fn f ys) | none => .fn f xs

def ofLeaf : Value → AV
  | .bool b => .p (.bool b)
  | .int k n => .p (.int k n)
  | .string s => .p (.str s.data.toList)
  | .pointer none => .p .nptr
  | .slice none 0 0 => .nsl
  | .map none => .p .nmap
  | .nilFunc => .p .nfn
  | .nilIface => .p .nif
  | .func (.func f) ⟨[]⟩ ⟨[]⟩ => .p (.fn f [])
  | _ => .undef
def ofVal : Value → AV
  | .agg _ => .undef
  | v => ofLeaf v
/-- May a value be stored in a cell (or in cells)? -/
def PV.stor : PV → Bool
  | .tup _ => false
  | _ => true
def AV.stor : AV → Bool
  | .p x => x.stor
  | .undef | .tup _ => false
  | _ => true
def zeroAV : Value → Option AV
  | .agg cs => if cs.size ≠ 0 ∧ cs.all Value.oneCell' = true then some (mkAgg (cs.toList.map ofLeaf)) else none
  | v => some (ofLeaf v)

def isAggT (P : Program) (t : TypeId) : Bool := match P.underlying t with | some (.struct _) | some (.array _ _) => true | _ => false
def tsz (P : Program) (t : TypeId) : Option Nat := (P.info? t).map (·.size)
/-- 0: one cell that is no struct and no array; else how many cells a struct or an array has. -/
def tsh (P : Program) (t : TypeId) : Option Nat :=
  match P.underlying t, P.info? t with
  | some (.struct _), some i | some (.array _ _), some i => if i.size = 0 then none else some i.size
  | some _, some i => if i.size = 1 then some 0 else none
  | _, _ => none
def tzero (P : Program) (t : TypeId) : Option AV := ((P.info? t).bind (·.zero)).bind zeroAV
/-- A slice's element: its type, its shape. -/
def telem (P : Program) (t : TypeId) : Option (TypeId × Nat) :=
  match P.underlying t with
  | some (.slice e) => (tsh P e).bind fun sh => if (tzero P e).any (fun z => z.shape == sh && match z with | .undef => false | _ => true) = true then some (e, sh) else none
  | _ => none
/-- A field's offset and its type's shape. -/
def tfield (P : Program) (t : TypeId) (f : Nat) : Option (Nat × Nat) :=
  match P.underlying t with
  | some (.struct fs) => (fs[f]?).bind fun x => (tsh P x.type).map (x.offset, ·)
  | _ => none
/-- An array's length and its element's shape. -/
def tarr (P : Program) (t : TypeId) : Option (Nat × Nat) :=
  match P.underlying t with
  | some (.array n e) => (tsh P e).map (n, ·)
  | _ => none

def oper (env : Env) : Operand → AV
  | .tmp t => env t
  | .const v => ofVal v
  | .func f => .p (.fn f [])
  | .global _ => .undef

def Env.upd (env : Env) (t : Nat) (v : AV) : Env := fun u => if u = t then v else env u
def Env.put (env : Env) (d : Option Tmp) (v : AV) : Env := match d with | some t => env.upd t v | none => env

/-! ### operations on data -/
def intBin (op : BinOp) (k : IntKind) (a b : Int) : Option PV :=
  match op with
  | .add => some (.int k (k.wrap (a + b)))
  | .sub => some (.int k (k.wrap (a - b)))
  | .mul => some (.int k (k.wrap (a * b)))
  | .quo => if b = 0 then none else some (.int k (k.wrap (a.tdiv b)))
  | .rem => if b = 0 then none else some (.int k (a.tmod b))
  | .and => some (.int k (k.wrap (BitVec.ofInt k.bits a &&& BitVec.ofInt k.bits b).toNat))
  | .or => some (.int k (k.wrap (BitVec.ofInt k.bits a ||| BitVec.ofInt k.bits b).toNat))
  | .xor => some (.int k (k.wrap (BitVec.ofInt k.bits a ^^^ BitVec.ofInt k.bits b).toNat))
  | .andNot => some (.int k (k.wrap (BitVec.ofInt k.bits a &&& ~~~ BitVec.ofInt k.bits b).toNat))
  | .eql => some (.bool (a == b))
  | .neq => some (.bool (a != b))
  | .lss => some (.bool (decide (a < b)))
  | .leq => some (.bool (decide (a ≤ b)))
  | .gtr => some (.bool (decide (b < a)))
  | .geq => some (.bool (decide (b ≤ a)))
  | _ => none

def strBin (op : BinOp) (a b : List UInt8) : Option PV :=
  match op with
  | .add => if ((a.length + b.length : Nat) : Int) ≤ IntKind.i64.max then some (.str (a ++ b)) else none
  | .eql => some (.bool (a == b))
  | .neq => some (.bool (!(a == b)))
  | .lss => some (.bool (Op.bytesLess a b))
  | .leq => some (.bool (Op.bytesLess a b || a == b))
  | .gtr => some (.bool (!(Op.bytesLess a b || a == b)))
  | .geq => some (.bool (!(Op.bytesLess a b)))
  | _ => none

/-- One cell against one cell of a kind: 1 bool, 2 integer, 3 string. -/
def leafEq : Nat → PV → PV → Option Bool
  | 1, .bool a, .bool b => some (a == b)
  | 2, .int k a, .int k' b => if k = k' then some (a == b) else none
  | 3, .str a, .str b => some (a == b)
  | _, _, _ => none
def cellsEq : List Nat → List PV → List PV → Option Bool
  | [], [], [] => some true
  | k :: ks, x :: xs, y :: ys => match leafEq k x y, cellsEq ks xs ys with
    | some a, some b => some (a && b)
    | _, _ => none
  | _, _, _ => none

def flatFs (f : TypeId → Option (List Nat)) : List Field → Nat → Option (List Nat)
  | [], _ => some []
  | x :: r, o => if x.offset = o ∧ x.name ≠ "_" then (f x.type).bind fun ks => (flatFs f r (o + ks.length)).map (ks ++ ·) else none

/-- The kinds of a type's cells, where its values are compared cell by cell. (depth) -/
def flatKs (P : Program) : Nat → TypeId → Option (List Nat)
  | 0, _ => none
  | d + 1, t =>
    match P.underlying t, P.info? t with
    | some .bool, some i => if i.size = 1 then some [1] else none
    | some (.int _), some i => if i.size = 1 then some [2] else none
    | some .string, some i => if i.size = 1 then some [3] else none
    | some (.struct fs), some i => if P.stoodInHeld t = true then none else (flatFs (flatKs P d) fs.toList 0).bind fun ks => if ks.length = i.size ∧ ks ≠ [] then some ks else none
    | some (.array n e), some i => (flatKs P d e).bind fun ks => if n * ks.length = i.size ∧ n ≠ 0 ∧ ks ≠ [] then some (List.replicate n ks).flatten else none
    | _, _ => none
/-- The same, and '==' needs no look at interfaces. -/
def eqKs (P : Program) (t : TypeId) : Option (List Nat) := if P.eqGuardType P.depth t = false ∧ isAggT P t = true then flatKs P 40 t else none

/-- What kind of type one whose values may be held against each other is: 1 pointer, 2 function, 3 map, 4 slice, 5 bool. -/
def nilK (P : Program) (t : TypeId) : Nat :=
  match P.underlying t with
  | some (.pointer _) => 1
  | some (.func _ _ _) => 2
  | some (.map _ _) => 3
  | some (.slice _) => 4
  | some .bool => 5
  | _ => 0
/-- x == y where one of them is nil, or both are bools; 'none' in the answer: either. -/
def eqNil : Nat → AV → AV → Option (Option Bool)
  | 5, .p (.bool a), .p (.bool b) => some (some (a == b))
  | 1, .p .nptr, .p .nptr => some (some true)
  | 1, .p .nptr, .p (.fp _ _ _) | 1, .p (.fp _ _ _), .p .nptr | 1, .p .nptr, .vptr _ _ | 1, .vptr _ _, .p .nptr | 1, .p .nptr, .eptr _ _ _ _ | 1, .eptr _ _ _ _, .p .nptr => some (some false)
  | 2, .p .nfn, .p .nfn => some (some true)
  | 2, .p .nfn, .p (.fn _ _) | 2, .p (.fn _ _), .p .nfn | 2, .p .nfn, .fn _ _ | 2, .fn _ _, .p .nfn | 2, .p .nfn, .yld _ | 2, .yld _, .p .nfn => some (some false)
  | 3, .p .nmap, .p .nmap => some (some true)
  | 3, .p .nmap, .p (.fmap _ _) | 3, .p (.fmap _ _), .p .nmap | 3, .p .nmap, .map _ | 3, .map _, .p .nmap => some (some false)
  | 4, .nsl, .nsl => some (some true)
  | 4, .nsl, .ref _ _ _ _ _ | 4, .ref _ _ _ _ _, .nsl => some (some false)
  | 4, .nsl, .p (.sl _ xs) | 4, .p (.sl _ xs), .nsl => some (if xs.isEmpty then none else some false)
  | _, _, _ => none
/-- x == y: structs and arrays are compared cell by cell. -/
def eqAV (P : Program) (t : TypeId) : AV → AV → Option (Option Bool)
  | .p (.agg xs), .p (.agg ys) => (eqKs P t).bind fun ks => (cellsEq ks xs ys).map some
  | x, y => eqNil (nilK P t) x y

def unPV (op : UnOp) : PV → Option PV
  | .bool b => match op with | .not => some (.bool (!b)) | _ => none
  | .int k n => match op with
    | .neg => some (.int k (k.wrap (0 - n)))
    | .xor => some (.int k (k.wrap (BitVec.ofInt k.bits (if k.signed then -1 else k.max) ^^^ BitVec.ofInt k.bits n).toNat))
    | _ => none
  | _ => none

def binPV (op : BinOp) : PV → PV → Option PV
  | .int k a, .int k' b =>
    match op with
    | .shl => if b < 0 then none else some (.int k (k.wrap (a * 2 ^ min b.toNat k.bits)))
    | .shr => if b < 0 then none else some (.int k (a.fdiv (2 ^ min b.toNat k.bits)))
    | _ => if k = k' then intBin op k a b else none
  | .str a, .str b => strBin op a b
  | _, _ => none

/-- 'some none': either bool. -/
def binAV (P : Program) (op : BinOp) (t : TypeId) (x y : AV) : Option (Option AV) :=
  match x, y with
  | .p (.int j a), .p (.int j' b) => (binPV op (.int j a) (.int j' b)).map fun r => some (.p r)
  | .p (.str a), .p (.str b) => (binPV op (.str a) (.str b)).map fun r => some (.p r)
  | x, y =>
    match op with
    | .eql => (eqAV P t x y).map fun o => o.map fun b => .p (.bool b)
    | .neq => (eqAV P t x y).map fun o => o.map fun b => .p (.bool !b)
    | _ => none

def convPV (P : Program) (src dst : TypeId) : PV → Option PV
  | .int k n =>
    match P.underlying src, P.underlying dst with
    | some (.int k0), some (.int k') => if k0 = k then some (.int k' (k'.wrap n)) else none
    | _, _ => none
  | .str s =>
    match P.underlying src, P.underlying dst with
    | some .string, some .string => some (.str s)
    | _, _ => none
  | _ => none

/-! ### elements, loads, stores -/
def AV.isU : AV → Bool
  | .undef => true
  | _ => false

def atI {α : Type} (xs : List α) (i : Int) : Option α := if 0 ≤ i then xs[i.toNat]? else none

/-- What lies at an offset within a value of a shape: a part of a shape. -/
def partP (x : PV) (xsh off sh : Nat) : Option PV :=
  if off = 0 ∧ sh = xsh then some x
  else match sh with
    | 0 => x.cells[off]?
    | n => if off + n ≤ x.cells.length ∧ x.shape ≠ 0 then some (.agg ((x.cells.drop off).take n)) else none
def partA (x : AV) (xsh off sh : Nat) : Option AV :=
  if x.isU = true then none else
  if off = 0 ∧ sh = xsh then some x
  else match sh with
    | 0 => x.cells[off]?
    | n => if off + n ≤ x.cells.length ∧ x.shape ≠ 0 then some (mkAgg ((x.cells.drop off).take n)) else none

/-- A part of a value's cells: of a shape. -/
def partC (cs : List AV) (off : Nat) : Nat → Option AV
  | 0 => cs[off]?
  | n + 1 => if off + (n + 1) ≤ cs.length then some (mkAgg ((cs.drop off).take (n + 1))) else none

def setR {α : Type} (cs : List α) (off : Nat) : List α → List α
  | [] => cs
  | v :: vs => setR (cs.set off v) (off + 1) vs

/-- A value with another part. -/
def withA (x : AV) (off sh : Nat) (v : AV) : Option AV :=
  if v.shape = sh ∧ v.stor = true ∧ x.isU = false then
    if off = 0 ∧ sh = x.shape then some v
    else if off + stride sh ≤ x.cells.length ∧ x.shape ≠ 0 then some (mkAgg (setR x.cells off v.cells)) else none
  else none

def unP : AV → Option PV
  | .p x => some x
  | _ => none

def evLoad (P : Program) (t : TypeId) (a : AV) (H : Heap) : Option AV :=
  match tsh P t with
  | none => none
  | some sh =>
    match a with
    | .p (.fp x xsh off) => (partP x xsh off sh).map AV.p
    | .vptr b off => match H[b]? with
      | some (.var _ x) => partA x x.shape off sh
      | _ => none
    | .eptr b g i off => match H[b]? with
      | some (.arr _ g' xsh xs) => if g' = g then (xs[i]?).bind fun x => (partP x xsh off sh).map AV.p else none
      | _ => none
    | _ => none

def evStore (P : Program) (t : TypeId) (a v : AV) (H : Heap) : Option Heap :=
  match tsh P t with
  | none => none
  | some sh =>
    match a with
    | .vptr b off => match H[b]? with
      | some (.var true x) => (withA x off sh v).map fun y => H.set b (.var true y)
      | _ => none
    | .eptr b g i off => match H[b]? with
      | some (.arr true g' xsh xs) => if g' = g then (xs[i]?).bind fun x => if x.shape = xsh then (withA (.p x) off sh v).bind fun y => (unP y).map fun z => H.set b (.arr true g' xsh (xs.set i z)) else none else none
      | _ => none
    | _ => none

/-- The elements that a slice tells of. -/
def elems (H : Heap) (sh : Nat) : AV → Option (List PV)
  | .nsl => some []
  | .p (.sl s xs) => if s = sh then some xs else none
  | .ref b g off len _ => match H[b]? with
    | some (.arr _ g' s xs) => if g' = g ∧ s = sh ∧ off + len ≤ xs.length then some ((xs.drop off).take len) else none
    | _ => none
  | .p (.str s) => if sh = 0 then some (s.map fun c => .int .u8 c.toNat) else none
  | _ => none

/-- What 'len' is asked of: 1 array (and how long), 2 string, 3 slice, 4 map. -/
def lenKind (P : Program) (t : TypeId) : Nat × Nat :=
  match P.underlying t with
  | some (.array n _) => (1, n)
  | some .string => (2, 0)
  | some (.slice _) => (3, 0)
  | some (.map _ _) => (4, 0)
  | _ => (0, 0)
def lenAV (H : Heap) : Nat × Nat → AV → Option Nat
  | (1, n), _ => some n
  | (3, _), .nsl => some 0
  | (3, _), .p (.sl _ xs) => some xs.length
  | (3, _), .ref _ _ _ len _ => some len
  | (2, _), .p (.str s) => some s.length
  | (4, _), .p .nmap => some 0
  | (4, _), .p (.fmap ks _) => some ks.length
  | (4, _), .map b => match H[b]? with
    | some (.map _ _ ks _) => some ks.length
    | _ => none
  | _, _ => none

def evIndexAddr (P : Program) (t : TypeId) (x i : AV) (H : Heap) : Option AV :=
  match i with
  | .p (.int _ i) =>
    match telem P t with
    | some (_, sh) =>
      match x with
      | .p (.sl s xs) => if s = sh then (atI xs i).map fun y => .p (.fp y sh 0) else none
      | .ref b g off len _ => match H[b]? with
        | some (.arr _ _ s _) => if s = sh ∧ 0 ≤ i ∧ i < len then some (.eptr b g (off + i.toNat) 0) else none
        | _ => none
      | _ => none
    | none =>
      match tarr P t with
      | some (n, sh) =>
        if 0 ≤ i ∧ i < n then
          match x with
          | .p (.fp y s off) => some (.p (.fp y s (off + i.toNat * stride sh)))
          | .vptr b off => some (.vptr b (off + i.toNat * stride sh))
          | .eptr b g j off => some (.eptr b g j (off + i.toNat * stride sh))
          | _ => none
        else none
      | none => none
  | _ => none

def evFieldAddr (P : Program) (t : TypeId) (x : AV) (f : Nat) : Option AV :=
  match tfield P t f with
  | some (o, _) =>
    match x with
    | .p (.fp y s off) => some (.p (.fp y s (off + o)))
    | .vptr b off => some (.vptr b (off + o))
    | .eptr b g j off => some (.eptr b g j (off + o))
    | _ => none
  | none => none

def evIndex (P : Program) (t : TypeId) (x i : AV) : Option AV :=
  match x, i with
  | .p (.str s), .p (.int _ i) => match P.underlying t with
    | some .string => (atI s i).map fun c => .p (.int .u8 c.toNat)
    | _ => none
  | x, .p (.int _ i) => match tarr P t with
    | some (n, sh) => if 0 ≤ i ∧ i < n ∧ x.shape ≠ 0 ∧ x.isU = false then
        partC x.cells (i.toNat * stride sh) sh
      else none
    | none => none
  | _, _ => none

def evField (P : Program) (t : TypeId) (x : AV) (f : Nat) : Option AV :=
  match tfield P t f with
  | some (o, sh) => if x.shape = 0 ∨ x.isU = true then none else partC x.cells o sh
  | none => none

/-- A bound of a slice expression: an int within 0 .. y. -/
def bnd (o : Option AV) (y d : Nat) : Option Nat :=
  match o with
  | none => some d
  | some (.p (.int _ i)) => if 0 ≤ i ∧ i ≤ y then some i.toNat else none
  | _ => none

def evSlice (P : Program) (t : TypeId) (x : AV) (lo hi mx : Option AV) (H : Heap) : Option AV :=
  match x with
  | .p (.str s) => match P.underlying t, mx with
    | some .string, none => (bnd hi s.length s.length).bind fun h => (bnd lo h 0).map fun l => .p (.str ((s.take h).drop l))
    | _, _ => none
  | .p (.sl sh xs) => match telem P t, mx with
    | some (_, s), none => if s = sh then (bnd hi xs.length xs.length).bind fun h => (bnd lo h 0).map fun l => .p (.sl sh ((xs.take h).drop l)) else none
    | _, _ => none
  | .nsl => match telem P t, mx with
    | some _, none => (bnd hi 0 0).bind fun h => (bnd lo h 0).map fun _ => .nsl
    | some _, some m => (bnd (some m) 0 0).bind fun m => (bnd hi m 0).bind fun h => if hi.isSome then (bnd lo h 0).map fun _ => .nsl else none
    | none, _ => none
  | .ref b g off len ex => match telem P t with
    | some (_, s) => match H[b]? with
      | some (.arr _ g' sh _) => if s = sh ∧ g = g' then
          (match mx with
            | none => (bnd hi len len).bind fun h => (bnd lo h 0).map fun l => .ref b g (off + l) (h - l) (ex && h == len)
            | some m => (bnd (some m) len 0).bind fun m => (bnd hi m 0).bind fun h => if hi.isSome ∧ h = m then (bnd lo h 0).map fun l => .ref b g (off + l) (h - l) true else none)
        else none
      | _ => none
    | none => none
  | _ => none

/-- Struct and array literals. -/
def fillA (place : Nat → Option (Nat × Nat)) (cs : List AV) : List (Nat × AV) → Option (List AV)
  | [] => some cs
  | (i, v) :: r => match place i with
    | none => none
    | some (off, size) => if v.cells.length = size ∧ off + size ≤ cs.length ∧ v.stor = true then fillA place (setR cs off v.cells) r else none

/-- A struct's fields (offset, size), or an array's element size. -/
def tplaces (P : Program) (t : TypeId) : Option (List (Nat × Nat) ⊕ Nat) :=
  match P.underlying t with
  | some (.struct fs) => (fs.toList.mapM fun f => (P.info? f.type).map fun i => (f.offset, i.size)).map .inl
  | some (.array _ e) => (tsz P e).map .inr
  | _ => none

def evBuild (P : Program) (t : TypeId) (parts : List (Nat × AV)) : Option AV :=
  (tzero P t).bind fun z => if z.shape = 0 then none else (tplaces P t).bind fun
    | .inl ps => (fillA (fun i => ps[i]?) z.cells parts).map mkAgg
    | .inr s => (fillA (fun i => some (i * s, s)) z.cells parts).map mkAgg

/-- A slice literal: elements that are not told are zero. -/
def fillS (sh : Nat) (xs : List PV) : List (Nat × AV) → Option (List PV)
  | [] => some xs
  | (i, .p v) :: r => if v.shape = sh ∧ i < xs.length ∧ v.stor = true then fillS sh (xs.set i v) r else none
  | _ => none

/-! ### maps -/
/-- A map's key: 1 bool, 2 integer, 3 string; 4: a struct, compared cell by cell. -/
inductive KeyK where
  | plain (k : Nat) | wide (ks : List Nat)
def keyK (P : Program) (t : TypeId) : Option KeyK :=
  match P.underlying t with
  | some .bool => some (.plain 1)
  | some (.int _) => some (.plain 2)
  | some .string => some (.plain 3)
  | some (.struct _) => (flatKs P 40 t).map .wide
  | _ => none
def keyEq : KeyK → PV → PV → Option Bool
  | .plain k, x, y => leafEq k x y
  | .wide ks, .agg xs, .agg ys => cellsEq ks xs ys
  | _, _, _ => none
def findK (kk : KeyK) (key : PV) : List PV → Nat → Option (Option Nat)
  | [], _ => some none
  | k :: r, i => match keyEq kk key k with
    | some true => some (some i)
    | some false => findK kk key r (i + 1)
    | none => none

def evLookup (kk : KeyK) (key : PV) (ks : List PV) (vs : List AV) (zero : AV) : Option (AV × Bool) :=
  match findK kk key ks 0 with
  | some (some i) => (vs[i]?).map (·, true)
  | some none => some (zero, false)
  | none => none

/-- Is a value a key of a kind at all? -/
def keyOK (kk : KeyK) (key : PV) : Bool := (keyEq kk key key).isSome

/-- A map's key and element types. -/
def tmap (P : Program) (t : TypeId) : Option (TypeId × TypeId × KeyK) :=
  match P.underlying t with
  | some (.map k e) => (keyK P k).map fun kk => (k, e, kk)
  | _ => none

end Go.Ev
end
section
/- THE ABSTRACT EVALUATOR: operations, code, calls: predicate transformers, and their least fixed point. -/
namespace Go.Ev

/-- What is known of calls, of rounds of a range over a function, and of loops. -/
structure Tr where
  call : FuncId → List AV → Heap → (AV → Heap → Prop) → Prop
  yield : Nat → List AV → Heap → (AV → Heap → Prop) → Prop
  loop : Code → Env → Heap → (Ex → Env → Heap → Prop) → Prop

inductive Mode where
  | no
  | imp
  | pure
  | own
  | ext (spec : List AV → Heap → (AV → Heap → Prop) → Prop)

structure Cfg where
  P : Program
  md : FuncId → Mode

mutual
def PV.flat : PV → Bool
  | .agg xs => flatL xs
  | .tup xs => flatL xs
  | .sl _ _ | .fp _ _ _ | .fn _ _ | .fmap _ _ | .iface _ _ => false
  | _ => true
def flatL : List PV → Bool
  | [] => true
  | x :: r => x.flat && flatL r
end

/-- The types of a type's cells. -/
def leafTs (P : Program) : Nat → TypeId → List TypeId
  | 0, _ => []
  | d + 1, t => match P.underlying t with
    | some (.struct fs) => fs.toList.flatMap fun f => leafTs P d f.type
    | some (.array n e) => (List.replicate n (leafTs P d e)).flatten
    | _ => [t]

def frzL (f : TypeId → AV → Option PV) : List AV → List TypeId → Option (List PV)
  | [], _ => some []
  | x :: xs, ts => (f (ts.headD 0) x).bind fun y => (frzL f xs ts.tail).map (y :: ·)

/-- A value as data: what it leads to is read now. -/
def frzN (P : Program) (H : Heap) : Nat → TypeId → AV → Option PV
  | _, _, .p x => some x
  | _, t, .nsl => (telem P t).map fun e => .sl e.2 []
  | _, _, .ref b g off len _ => match H[b]? with
    | some (.arr _ g' sh xs) => if g' = g ∧ off + len ≤ xs.length then some (.sl sh ((xs.drop off).take len)) else none
    | _ => none
  | _, _, .vptr b off => match H[b]? with
    | some (.var _ (.p x)) => some (.fp x x.shape off)
    | _ => none
  | _, _, .eptr b g i off => match H[b]? with
    | some (.arr _ g' sh xs) => if g' = g then (xs[i]?).map fun x => .fp x sh off else none
    | _ => none
  | _, _, .map b => match H[b]? with
    | some (.map _ _ ks vs) => (allP vs).map fun ws => .fmap ks ws
    | _ => none
  | n + 1, t, .agg xs => (frzL (frzN P H n) xs (leafTs P 20 t)).map PV.agg
  | n + 1, _, .fn f caps => (frzL (frzN P H n) caps []).map (PV.fn f)
  | _, _, _ => none

def frzR (P : Program) (H : Heap) (ts : List TypeId) : AV → Option PV
  | .p x => some x
  | .tup xs => (frzL (frzN P H 4) xs ts).map PV.tup
  | x => frzN P H 4 (ts.headD 0) x

/-- The blocks that reading a value as data reads. -/
def ids : Nat → AV → List Nat
  | _, .ref b _ _ _ _ => [b]
  | _, .vptr b _ => [b]
  | _, .eptr b _ _ _ => [b]
  | _, .map b => [b]
  | n + 1, .agg xs => xs.flatMap (ids n)
  | n + 1, .fn _ caps => caps.flatMap (ids n)
  | _, _ => []

def Blk.frozen : Blk → Blk
  | .arr _ g sh xs => .arr false g sh xs
  | .var _ x => .var false x
  | .map _ g ks vs => .map false g ks vs
  | b => b

def freezeIds : List Nat → Heap → Heap
  | [], H => H
  | b :: r, H => freezeIds r (match H[b]? with | some x => H.set b x.frozen | none => H)

/-- What a call of a mode 'own' hands over: the list that the callee made, as a block of the caller's own. -/
def takeOwn (av : AV) (H' H1 : Heap) : Option (AV × Heap) :=
  match av with
  | .nsl => some (.nsl, H1)
  | .ref b g 0 len false => match H'[b]? with
    | some (.arr true g' sh xs) => if g' = g ∧ len = xs.length then some (.ref H1.length 0 0 xs.length false, H1 ++ [.arr true 0 sh xs]) else none
    | _ => none
  | _ => none

def evCall (C : Cfg) (X : Tr) (f : FuncId) (args : List AV) (H : Heap) (k : AV → Heap → Prop) : Prop :=
  match C.md f with
  | .no => False
  | .imp => X.call f args H k
  | .ext spec => spec args H k
  | .pure => oK C.P.funcs[f]? fun fn => oK (frzL (frzN C.P H 4) args fn.params.toList) fun pa =>
        X.call f (pa.map AV.p) [] fun av H' => oK (frzR C.P H' fn.resultTypes.toList av) fun r =>
          k (.p r) (if r.flat then H else freezeIds (args.flatMap (ids 4)) H)
  | .own => oK C.P.funcs[f]? fun fn => oK (frzL (frzN C.P H 4) args fn.params.toList) fun pa =>
        X.call f (pa.map AV.p) [] fun av H' => oK (takeOwn av H' (freezeIds (args.flatMap (ids 4)) H)) fun r => k r.1 r.2

def evCallV (C : Cfg) (X : Tr) (fv : AV) (args : List AV) (H : Heap) (k : AV → Heap → Prop) : Prop :=
  match fv with
  | .p (.fn f caps) => evCall C X f (args ++ caps.map AV.p) H k
  | .fn f caps => evCall C X f (args ++ caps) H k
  | .yld b => X.yield b args H k
  | _ => False

/-- 'append(s, x..)'. -/
def evAppend (P : Program) (t : TypeId) (s x : AV) (H : Heap) : Option (AV × Heap) :=
  (telem P t).bind fun e => (elems H e.2 x).bind fun ys =>
    match s with
    | .nsl => if ys.length * P.bytesOf e.1 ≤ 2 ^ 46 ∧ ys.length ≤ 2 ^ 46 then (match ys with
      | [] => some (.nsl, H)
      | y :: r => some (.ref H.length 0 0 (r.length + 1) false, H ++ [.arr true 0 e.2 (y :: r)])) else none
    | .ref b g off len ex => match H[b]? with
      | some (.arr live g' sh xs) =>
        if g' = g ∧ sh = e.2 ∧ off + len ≤ xs.length then
          if (len + ys.length) * P.bytesOf e.1 ≤ 2 ^ 46 ∧ len + ys.length ≤ 2 ^ 46 then
            (match ex with
             | false => if live = true ∧ off + len = xs.length then some (.ref b (g + 1) 0 (len + ys.length) false, H.set b (.arr true (g + 1) sh (xs.drop off ++ ys))) else none
             | true => (match ys with
               | [] => some (.ref b g off len true, H)
               | y :: r => some (.ref H.length 0 0 (len + (r.length + 1)) false, H ++ [.arr true 0 sh ((xs.drop off).take len ++ y :: r)])))
          else none
        else none
      | _ => none
    | _ => none

/-- 'copy(d, s)'. -/
def evCopy (P : Program) (t : TypeId) (d s : AV) (H : Heap) : Option (AV × Heap) :=
  (telem P t).bind fun e => (elems H e.2 s).bind fun ys =>
    match d with
    | .ref b g off len _ => match H[b]? with
      | some (.arr true g' sh xs) => if g' = g ∧ sh = e.2 ∧ off + len ≤ xs.length then
          some (.p (.int .i64 (min ys.length len : Nat)), H.set b (.arr true g sh (setR xs off (ys.take len)))) else none
      | _ => none
    | .nsl => some (.p (.int .i64 0), H)
    | _ => none

def evMapUpdate (P : Program) (t : TypeId) (m key v : AV) (H : Heap) : Option Heap :=
  (tmap P t).bind fun kt =>
  match m, key with
  | .map b, .p key => match H[b]? with
    | some (.map true g ks vs) => if keyOK kt.2.2 key = true then (findK kt.2.2 key ks 0).map fun
      | some i => H.set b (.map true g (ks.set i key) (vs.set i v))
      | none => H.set b (.map true (g + 1) (ks ++ [key]) (vs ++ [v])) else none
    | _ => none
  | _, _ => none

/-- 'm[k] op= v', the first half: the entry is there; what it holds, and which it is. -/
def evMapEntry (P : Program) (t : TypeId) (m key : AV) (H : Heap) : Option (AV × Heap) :=
  (tmap P t).bind fun kt =>
  match m, key with
  | .map b, .p key => match H[b]? with
    | some (.map true g ks vs) => if keyOK kt.2.2 key = true then (findK kt.2.2 key ks 0).bind fun
      | some i => (vs[i]?).map fun v => (.tup [v, .stm b g i], H.set b (.map true g (ks.set i key) vs))
      | none => (tzero P kt.2.1).map fun z => (.tup [z, .stm b (g + 1) ks.length], H.set b (.map true (g + 1) (ks ++ [key]) (vs ++ [z]))) else none
    | _ => none
  | _, _ => none
/-- The second half. -/
def evEntryStore (m e v : AV) (H : Heap) : Option Heap :=
  match m, e with
  | .map b, .stm b' g' j => if b = b' then (match H[b]? with
    | some (.map true g ks vs) => if g = g' ∧ j < vs.length then some (H.set b (.map true g ks (vs.set j v))) else none
    | _ => none) else none
  | _, _ => none

def evDelete (P : Program) (t : TypeId) (m key : AV) (H : Heap) : Option Heap :=
  (tmap P t).bind fun kt =>
  match m, key with
  | .p .nmap, .p key => if keyOK kt.2.2 key = true then some H else none
  | .map b, .p key => match H[b]? with
    | some (.map true g ks vs) => if keyOK kt.2.2 key = true then (findK kt.2.2 key ks 0).map fun
      | some i => H.set b (.map true (g + 1) (ks.eraseIdx i) (vs.eraseIdx i))
      | none => H else none
    | _ => none
  | _, _ => none

def evLook (P : Program) (t : TypeId) (m key : AV) (ok : Bool) (H : Heap) : Option AV :=
  (tmap P t).bind fun kt => (tzero P kt.2.1).bind fun z =>
  ((match m, key with
  | .p .nmap, .p key => if keyOK kt.2.2 key = true then some (z, false) else none
  | .p (.fmap ks vs), .p key => if keyOK kt.2.2 key = true then evLookup kt.2.2 key ks (vs.map AV.p) z else none
  | .map b, .p key => match H[b]? with
    | some (.map _ _ ks vs) => if keyOK kt.2.2 key = true then evLookup kt.2.2 key ks vs z else none
    | _ => none
  | _, _ => none) : Option (AV × Bool)).map fun r => if ok then mkTup [r.1, .p (.bool r.2)] else r.1

def evRange (P : Program) (t : TypeId) (x : AV) (H : Heap) : Option (AV × Heap) :=
  (tmap P t).bind fun _ =>
  match x with
  | .p .nmap => some (.it H.length, H ++ [.fit [] [] []])
  | .p (.fmap ks vs) => some (.it H.length, H ++ [.fit ks vs (0 :: List.range ks.length)])
  | .map b => match H[b]? with
    | some (.map _ g ks _) => some (.it H.length, H ++ [.mit b g (0 :: List.range ks.length)])
    | _ => none
  | _ => none

/-- An iterator's keys and elements, the places that are left, and what it is with fewer of them. -/
def iterOf (H : Heap) (c : Nat) : Option (List PV × List AV × List Nat × (List Nat → Heap)) :=
  match H[c]? with
  | some (.fit ks vs todo) => some (ks, vs.map AV.p, todo.tail, fun l => H.set c (.fit ks vs l))
  | some (.mit b g todo) => match H[b]? with
    | some (.map _ g' ks vs) => if g' = g then some (ks, vs, todo.tail, fun l => H.set c (.mit b g l)) else none
    | _ => none
  | _ => none

/-- The next of a map: none is left, or whichever of them. -/
def nextK (H : Heap) (r : List PV × List AV × List Nat × (List Nat → Heap)) (k : AV → Heap → Prop) : Prop :=
  (r.2.2.1 = [] → k (.p (.tup [.bool false])) H) ∧
    ∀ j ∈ r.2.2.1, oK r.1[j]? fun a => oK r.2.1[j]? fun v => k (mkTup [.p (.bool true), .p a, v]) (r.2.2.2 ((j + 1) :: r.2.2.1.erase j))

/-- The entry that an iterator has met last. -/
def entOf (H : Heap) (c : Nat) : Option (PV × AV) :=
  match H[c]? with
  | some (.fit ks vs ((j + 1) :: _)) => (ks[j]?).bind fun a => (vs[j]?).map fun v => (a, .p v)
  | some (.mit b g ((j + 1) :: _)) => match H[b]? with
    | some (.map _ g' ks vs) => if g' = g then (ks[j]?).bind fun a => (vs[j]?).map fun v => (a, v) else none
    | _ => none
  | _ => none

def intsMax : List AV → Option (IntKind × Int)
  | [.p (.int k a)] => some (k, a)
  | .p (.int k a) :: r => match intsMax r with | some (k', b) => if k = k' then some (k, max a b) else none | none => none
  | _ => none
def intsMin : List AV → Option (IntKind × Int)
  | [.p (.int k a)] => some (k, a)
  | .p (.int k a) :: r => match intsMin r with | some (k', b) => if k = k' then some (k, min a b) else none | none => none
  | _ => none

def evLen (P : Program) (t : TypeId) (x : AV) (H : Heap) : Option Nat :=
  lenAV H (lenKind P t) x

/-- 'clear' of a slice. -/
def evClearS (P : Program) (t : TypeId) (m : AV) (H : Heap) : Option Heap :=
  (telem P t).bind fun e => (tzero P e.1).bind fun z => (frzN P H 4 e.1 z).bind fun y => if y.shape = e.2 ∧ ids 4 z = [] then (match m with
    | .ref b g off len _ => (match H[b]? with
      | some (.arr true g' sh xs) => if g' = g ∧ sh = e.2 ∧ off + len ≤ xs.length ∧ len ≠ 0 then some (H.set b (.arr true g sh (setR xs off (List.replicate len y)))) else none
      | _ => none)
    | _ => none) else none

def evClear (P : Program) (t : TypeId) (m : AV) (H : Heap) : Option Heap :=
  (tmap P t).bind fun _ =>
  match m with
  | .p .nmap => some H
  | .map b => match H[b]? with
    | some (.map true g _ _) => some (H.set b (.map true (g + 1) [] []))
    | _ => none
  | _ => none

def noRes (o : Option Heap) : Option (AV × Heap) := o.map fun H => (.p (.tup []), H)

def isSrcT (P : Program) (t : TypeId) : Bool := match P.underlying t with | some (.slice _) | some .string => true | _ => false

def evBuiltin (P : Program) (b : Builtin) (ts : List TypeId) (args : List AV) (H : Heap) : Option (AV × Heap) :=
  match b, ts, args with
  | .append, [t, u], [s, x] => if isSrcT P u = true then evAppend P t s x H else none
  | .copy, [t, _], [d, s] => evCopy P t d s H
  | .len, t :: _, [x] => (evLen P t x H).map fun n => (.p (.int .i64 (n : Nat)), H)
  | .delete, t :: _, [m, key] => noRes (evDelete P t m key H)
  | .clear, t :: _, [m] => if isSrcT P t = true then noRes (evClearS P t m H) else noRes (evClear P t m H)
  | .max, _, xs => (intsMax xs).map fun r => (.p (.int r.1 r.2), H)
  | .min, _, xs => (intsMin xs).map fun r => (.p (.int r.1 r.2), H)
  | _, _, _ => none

def nonNil : AV → Option AV
  | .p (.fp x s o) => some (.p (.fp x s o))
  | .p (.fn f c) => some (.p (.fn f c))
  | .vptr b o => some (.vptr b o)
  | .eptr b g i o => some (.eptr b g i o)
  | .fn f c => some (.fn f c)
  | .yld b => some (.yld b)
  | _ => none

def evAlloc (P : Program) (t : TypeId) (H : Heap) : Option (AV × Heap) :=
  (tzero P t).bind fun z => (tsh P t).bind fun sh => if z.shape = sh then some (.vptr H.length 0, H ++ [.var true z]) else none

def evBuildSlice (P : Program) (t : TypeId) (n : Nat) (ps : List (Nat × AV)) (H : Heap) : Option (AV × Heap) :=
  (telem P t).bind fun e => if n = 0 then (if ps.isEmpty = true then some (.ref H.length 0 0 0 false, H ++ [.arr true 0 e.2 []]) else none) else if n * stride e.2 ≤ 2 ^ 24 then
      (tzero P e.1).bind fun z => (frzN P H 4 e.1 z).bind fun y => if y.shape = e.2 ∧ ids 4 z = [] then
      (fillS e.2 (List.replicate n y) ps).map fun xs => (.ref H.length 0 0 n false, H ++ [.arr true 0 e.2 xs]) else none
    else none

def byteOf : PV → Option UInt8
  | .int .u8 n => some (UInt8.ofNat n.toNat)
  | _ => none
def bytesOf : List PV → Option (List UInt8)
  | [] => some []
  | x :: r => (byteOf x).bind fun b => (bytesOf r).map (b :: ·)
def ofBytes (s : List UInt8) : List PV := s.map fun c => .int .u8 c.toNat

inductive CvKind where | toStr | toBytes | plain | bad
def cvKind (P : Program) (a b : TypeId) : CvKind :=
  match P.underlying a, P.underlying b with
  | some (.slice e), some .string => (match P.underlying e with | some (.int .u8) => .toStr | _ => .bad)
  | some .string, some (.slice e) => (match P.underlying e with | some (.int .u8) => .toBytes | _ => .bad)
  | _, _ => .plain

def evConvert (P : Program) (a b : TypeId) (x : AV) (H : Heap) : Option (AV × Heap) :=
  match cvKind P a b with
  | .toStr => match x with
    | .p (.str _) => none
    | x => (elems H 0 x).bind fun xs => (bytesOf xs).map fun bs => (.p (.str bs), H)
  | .toBytes => match x with
    | .p (.str s) => some (.p (.sl 0 (ofBytes s)), H)
    | _ => none
  | .plain => ((unP x).bind (convPV P a b)).map fun v => (.p v, H)
  | .bad => none

def evMakeSlice (P : Program) (t : TypeId) (l c : AV) (H : Heap) : Option (AV × Heap) :=
  match l, c with
  | .p (.int .i64 l), .p (.int .i64 c) => (telem P t).bind fun e => if 0 ≤ l ∧ l ≤ c ∧ c < 2 ^ 46 ∧ c * P.bytesOf e.1 ≤ 2 ^ 46 then
        (tzero P e.1).bind fun z => (frzN P H 4 e.1 z).bind fun y => if y.shape = e.2 ∧ ids 4 z = [] then
          some (.ref H.length 0 0 l.toNat false, H ++ [.arr true 0 e.2 (List.replicate l.toNat y)]) else none
      else none
  | _, _ => none

def evExtract (x : AV) (i : Nat) : Option AV :=
  match x with
  | .p (.tup xs) => (xs[i]?).map AV.p
  | .tup xs => xs[i]?
  | _ => none

def evPick (c a b : AV) : Option AV :=
  match c with
  | .p (.bool true) => some a
  | .p (.bool false) => some b
  | _ => none

/-- What goes into a row's place is data: what it leads to is read now, and changes no more. -/
def orV : Option PV → AV → AV
  | some y, _ => .p y
  | none, v => v
def frV (P : Program) (t : TypeId) (H : Heap) (v : AV) : AV := orV (frzN P H 4 t v) v
def stV (P : Program) (t : TypeId) (a v : AV) (H : Heap) : AV := match a with
  | .eptr _ _ _ _ => frV P t H v
  | _ => v
def stH (a v : AV) (H : Heap) : Heap := match a with
  | .eptr _ _ _ _ => freezeIds (ids 4 v) H
  | _ => H
def elT (P : Program) (t : TypeId) : TypeId := ((telem P t).map (·.1)).getD 0
def frPs (P : Program) (e : TypeId) (ps : List (Nat × AV)) (H : Heap) : List (Nat × AV) := ps.map fun q => (q.1, frV P e H q.2)
def frH (ps : List (Nat × AV)) (H : Heap) : Heap := freezeIds (ps.flatMap fun q => ids 4 q.2) H

def evOp (C : Cfg) (X : Tr) (op : Op) (env : Env) (H : Heap) (k : AV → Heap → Prop) : Prop :=
  match op with
  | .move x | .assign x => k (oper env x) H
  | .pick c a b => oK (evPick (oper env c) (oper env a) (oper env b)) fun v => k v H
  | .alloc t => oK (evAlloc C.P t H) fun r => k r.1 r.2
  | .box _ x => k (.vptr H.length 0) (H ++ [.var true (oper env x)])
  | .build t ps => oK (evBuild C.P t (ps.toList.map fun q => (q.1, oper env q.2))) fun v => k v H
  | .buildSlice t n ps => oK (evBuildSlice C.P t n (frPs C.P (elT C.P t) (ps.toList.map fun q => (q.1, oper env q.2)) H) (frH (ps.toList.map fun q => (q.1, oper env q.2)) H)) fun r => k r.1 r.2
  | .load t a => oK (evLoad C.P t (oper env a) H) fun v => k v H
  | .store t a v => oK (evStore C.P t (oper env a) (stV C.P t (oper env a) (oper env v) H) (stH (oper env a) (oper env v) H)) fun H' => k .undef H'
  | .nilCheck x => oK (nonNil (oper env x)) fun v => k v H
  | .binOp op t x y _ => oK (binAV C.P op t (oper env x) (oper env y)) fun
    | some v => k v H
    | none => ∀ b : Bool, k (.p (.bool b)) H
  | .unOp op _ x => oK ((unP (oper env x)).bind (unPV op)) fun v => k (.p v) H
  | .convert a b x => oK (evConvert C.P a b (oper env x) H) fun r => k r.1 r.2
  | .makeFunc (.func f) ⟨[]⟩ caps => k (mkFn f (caps.toList.map (oper env))) H
  | .makeMap t none => oK (tmap C.P t) fun _ => k (.map H.length) (H ++ [.map true 0 [] []])
  | .makeSlice t l c => oK (evMakeSlice C.P t (oper env l) (oper env c) H) fun r => k r.1 r.2
  | .slice t x lo hi mx => oK (evSlice C.P t (oper env x) (lo.map (oper env)) (hi.map (oper env)) (mx.map (oper env)) H) fun v => k v H
  | .fieldAddr t x f => oK (evFieldAddr C.P t (oper env x) f) fun v => k v H
  | .field t x f => oK (evField C.P t (oper env x) f) fun v => k v H
  | .indexAddr t x i => oK (evIndexAddr C.P t (oper env x) (oper env i) H) fun v => k v H
  | .index t x i => oK (evIndex C.P t (oper env x) (oper env i)) fun v => k v H
  | .lookup t m key ok => oK (evLook C.P t (oper env m) (oper env key) ok H) fun v => k v H
  | .mapUpdate t m key v => oK (evMapUpdate C.P t (oper env m) (oper env key) (oper env v) H) fun H' => k .undef H'
  | .mapEntry t m key => oK (evMapEntry C.P t (oper env m) (oper env key) H) fun r => k r.1 r.2
  | .entryStore _ m e v => oK (evEntryStore (oper env m) (oper env e) (oper env v) H) fun H' => k .undef H'
  | .range t x => oK (evRange C.P t (oper env x) H) fun r => k r.1 r.2
  | .next it false => (match oper env it with
    | .it c => oK (iterOf H c) fun r => nextK H r k
    | _ => False)
  | .entry it => (match oper env it with
    | .it c => oK (entOf H c) fun r => k (mkTup [.p r.1, r.2]) H
    | _ => False)
  | .extract x i => oK (evExtract (oper env x) i) fun v => k v H
  | .call c => match c.callee with
    | .value f => evCallV C X (oper env f) (c.args.toList.map (oper env)) H k
    | .builtin b => oK (evBuiltin C.P b c.argTypes.toList (c.args.toList.map (oper env)) H) fun r => k r.1 r.2
    | .invoke _ _ => False
  | _ => False

def asB : AV → Option Bool
  | .p (.bool b) => some b
  | _ => none

/-- What the place of an operation holds that its guard has skipped. -/
def skp : AV := .p (.tup [])
/-- A guard's place: is it as it is wanted, and what it holds if not. (An operation whose guard was itself skipped is skipped.) -/
def gN (want : Bool) : AV → Option (Bool × AV)
  | .p (.bool b) => some (b == want, .p (.bool (!want)))
  | .p (.tup []) => some (false, .p (.tup []))
  | _ => none

/-- A region's operations, in the text's order. -/
def evOps (C : Cfg) (X : Tr) (D : List (Option Tmp)) : List Oper → Env → Heap → (Env → Heap → Prop) → Prop
  | [], env, H, K => K env H
  | ⟨dst, op, _, _, _, none⟩ :: rest, env, H, K => evOp C X op env H fun v H' => evOps C X D rest (env.put dst v) H' K
  | ⟨dst, op, _, _, _, some (j, want)⟩ :: rest, env, H, K =>
    oK (D[j]?).join fun g => oK (gN want (env g)) fun r =>
      cK r.1 (fun _ => evOp C X op (env.upd g (.p (.bool want))) H fun v H' => evOps C X D rest ((env.upd g (.p (.bool want))).put dst v) H' K)
        (fun _ => evOps C X D rest ((env.upd g r.2).put dst skp) H K)

/-! ### regions that draw their order -/
/-- Operations that only read. -/
def isR (P : Program) : Op → Bool
  | .move _ | .assign _ | .pick _ _ _ | .build _ _ | .load _ _ | .nilCheck _ | .unOp _ _ _ | .slice _ _ _ _ _ | .fieldAddr _ _ _ | .field _ _ _ | .indexAddr _ _ _ | .index _ _ _ | .lookup _ _ _ _ | .extract _ _ => true
  | .makeFunc (.func _) ⟨[]⟩ _ => true
  | .binOp op t _ _ _ => (match op with | .eql | .neq => nilK P t != 4 | _ => true)
  | .convert a b _ => (match cvKind P a b with | .toBytes => false | _ => true)
  | .call c => (match c.callee with | .builtin .len | .builtin .max | .builtin .min => true | _ => false)
  | _ => false
/-- Those among them that read no memory. -/
def isF : Op → Bool
  | .move _ | .assign _ | .pick _ _ _ | .build _ _ | .nilCheck _ | .unOp _ _ _ | .fieldAddr _ _ _ | .field _ _ _ | .index _ _ _ | .extract _ _ | .makeFunc _ _ _ | .binOp _ _ _ _ _ => true
  | _ => false
def rdOp (P : Program) (op : Op) (env : Env) (H : Heap) : Option AV :=
  match op with
  | .move x | .assign x => some (oper env x)
  | .pick c a b => evPick (oper env c) (oper env a) (oper env b)
  | .build t ps => evBuild P t (ps.toList.map fun q => (q.1, oper env q.2))
  | .load t a => evLoad P t (oper env a) H
  | .nilCheck x => nonNil (oper env x)
  | .binOp op t x y _ => (binAV P op t (oper env x) (oper env y)).join
  | .unOp op _ x => ((unP (oper env x)).bind (unPV op)).map AV.p
  | .convert a b x => (evConvert P a b (oper env x) H).map (·.1)
  | .makeFunc (.func f) ⟨[]⟩ caps => some (mkFn f (caps.toList.map (oper env)))
  | .slice t x lo hi mx => evSlice P t (oper env x) (lo.map (oper env)) (hi.map (oper env)) (mx.map (oper env)) H
  | .fieldAddr t x f => evFieldAddr P t (oper env x) f
  | .field t x f => evField P t (oper env x) f
  | .indexAddr t x i => evIndexAddr P t (oper env x) (oper env i) H
  | .index t x i => evIndex P t (oper env x) (oper env i)
  | .lookup t m key ok => evLook P t (oper env m) (oper env key) ok H
  | .extract x i => evExtract (oper env x) i
  | .call c => (match c.callee with
    | .builtin b => (evBuiltin P b c.argTypes.toList (c.args.toList.map (oper env)) H).map (·.1)
    | _ => none)
  | _ => none
/-- The same, behind its guard. -/
def rdO (P : Program) (D : List (Option Tmp)) (o : Oper) (env : Env) (H : Heap) : Option AV :=
  match o.guard with
  | none => rdOp P o.op env H
  | some (j, want) => (D[j]?).join.bind fun g => (gN want (env g)).bind fun r => if r.1 = true then rdOp P o.op env H else some skp

/-- In which order a region's operations are met: those that only read as soon as they can be; the others in every order. -/
inductive Pl where
  | done
  | r (i : Nat) (t : Pl)
  | o (j : Nat) (chk : List Nat) (t alt : Pl)
  | stop

/-- What has been read is still so. -/
def still (P : Program) (D : List (Option Tmp)) (ops : Array Oper) (env : Env) (H : Heap) : List Nat → Prop
  | [] => True
  | i :: r => (match ops[i]? with
    | some o => (match o.dst with
      | some d => rdO P D o env H = some (env d)
      | none => (rdO P D o env H).isSome = true)
    | none => False) ∧ still P D ops env H r

def evP (C : Cfg) (X : Tr) (D : List (Option Tmp)) (ops : Array Oper) : Pl → Env → Heap → (Env → Heap → Prop) → Prop
  | .done, env, H, K => K env H
  | .r i t, env, H, K => match ops[i]? with
    | some o => oK (rdO C.P D o env H) fun v => evP C X D ops t (env.put o.dst v) H K
    | none => False
  | .o j chk t alt, env, H, K => (match ops[j]? with
    | some o => evOps C X D [o] env H fun env' H' => still C.P D ops env' H' chk ∧ evP C X D ops t env' H' K
    | none => False) ∧ evP C X D ops alt env H K
  | .stop, _, _, _ => True

/-- Which operations must come ahead of one. -/
def preds (ops : Array Oper) (i : Nat) : List Nat := match ops[i]? with
  | some o => (o.after.toList.filter (Region.binds .any)).map (·.on)
  | none => []
/-- For each operation, as bits, which must come ahead of it, directly or through others. -/
def ancB (acc : List Nat) (es : List Edge) : Nat := es.foldl (fun s e => if Region.binds .any e then s ||| 2 ^ e.on ||| acc.getD e.on 0 else s) 0
def ancT : List Oper → List Nat → List Nat
  | [], acc => acc
  | o :: r, acc => ancT r (acc ++ [ancB acc o.after.toList])
def readsOf (D : List (Option Tmp)) (o : Oper) : List Tmp :=
  (o.op.operands.toList.filterMap fun | .tmp t => some t | _ => none) ++ (match o.guard with | some (j, _) => ((D[j]?).join).toList | none => [])
/-- One of the region's operations that only read, and whose place is read by later ones alone, and written by itself alone. -/
def isRd (P : Program) (ops : Array Oper) (D : List (Option Tmp)) (T : List Nat) (m : Nat) : Bool := match ops[m]? with
  | none => false
  | some om => isR P om.op && (match om.dst with
    | none => true
    | some d => (List.range ops.size).all fun i => match ops[i]? with
      | none => false
      | some oi => if i = m then !(readsOf D oi).contains d else !(oi.dst == some d) && (!(readsOf D oi).contains d || (T.getD i 0).testBit m))
def opF (ops : Array Oper) (i : Nat) : Bool := match ops[i]? with | some o => isF o.op | none => false
def subset (a b : List Nat) : Bool := a.all fun x => b.contains x

/-- What is asked of the places that a region's other operations write. -/
def okT (ops : Array Oper) (D : List (Option Tmp)) (T : List Nat) (R : List Bool) : Bool :=
  (List.range ops.size).all fun m => R.getD m false || match ops[m]? with
    | none => false
    | some om => (match om.dst with
      | none => true
      | some d => (List.range ops.size).all fun i => decide (i = m) || match ops[i]? with
        | none => false
        | some oi => !(readsOf D oi).contains d || (T.getD i 0).testBit m || (T.getD m 0).testBit i)
def readyO (ops : Array Oper) (R : List Bool) (pre : List Nat) : List Nat := (List.range ops.size).filter fun j => !pre.contains j && !R.getD j false && subset (preds ops j) pre
def okP (ops : Array Oper) (T : List Nat) (R : List Bool) : Option (List Nat) → List Nat → Pl → Bool
  | none, pre, .done => (List.range ops.size).all fun i => pre.contains i
  | none, pre, .r i t => decide (i < ops.size) && !pre.contains i && R.getD i false && subset (preds ops i) pre && okP ops T R none (i :: pre) t
  | m, pre, .o j chk t alt =>
    (match m with
      | none => ((List.range ops.size).all fun i => pre.contains i || !R.getD i false || !subset (preds ops i) pre)
      | some _ => true) &&
    decide (j < ops.size) && !pre.contains j && !R.getD j false && subset (preds ops j) pre &&
    (pre.all fun i => !R.getD i false || opF ops i || (T.getD j 0).testBit i || chk.contains i) &&
    okP ops T R none (j :: pre) t && okP ops T R (some ((m.getD (readyO ops R pre)).filter (· != j))) pre alt
  | some need, _, .stop => need.isEmpty
  | _, _, _ => false

/-- Such an order. (no more than a guess: 'okP' looks at it) -/
def mkPl (ops : Array Oper) (T : List Nat) (R : List Bool) : Nat → List Nat → Pl
  | 0, _ => .done
  | n + 1, pre =>
    match (List.range ops.size).find? fun i => !pre.contains i && R.getD i false && subset (preds ops i) pre with
    | some i => .r i (mkPl ops T R n (i :: pre))
    | none => if (List.range ops.size).all (fun i => pre.contains i) then .done else
        (readyO ops R pre).foldr (fun j alt => .o j (pre.filter fun i => R.getD i false && !opF ops i && !(T.getD j 0).testBit i) (mkPl ops T R n (j :: pre)) alt) .stop

/-- Every edge leads back; the machine follows no other edges. -/
def okE (P : Program) (ops : Array Oper) : Bool :=
  ((List.range ops.size).all fun i => match ops[i]? with | some o => o.after.all (fun e => !Region.binds .any e || decide (e.on < i)) | none => false) &&
  (P.follows .mixedOrders || !Region.departs ops)

/-- The text's order. -/
def textPl (R : List Bool) : Nat → Nat → Pl
  | 0, _ => .done
  | n + 1, i => if R.getD i false = true then .r i (textPl R n (i + 1)) else .o i [] (textPl R n (i + 1)) .stop

structure Plan where
  T : List Nat
  R : List Bool
  pl : Option Pl
def mkPlan (P : Program) (ops : Array Oper) : Plan :=
  let T := ancT ops.toList []
  let R := (List.range ops.size).map fun m => isRd P ops (ops.toList.map (·.dst)) T m
  { T := T, R := R, pl := if okP ops T R none [] (textPl R ops.size 0) = true then none else some (mkPl ops T R (2 * ops.size + 2) []) }
def okPlan (P : Program) (ops : Array Oper) (p : Plan) : Bool :=
  okE P ops && p.T == ancT ops.toList [] && p.R == ((List.range ops.size).map fun m => isRd P ops (ops.toList.map (·.dst)) p.T m) && okT ops (ops.toList.map (·.dst)) p.T p.R &&
    okP ops p.T p.R none [] (match p.pl with | none => textPl p.R ops.size 0 | some pl => pl)

/-- A region that draws its order. -/
def evD (C : Cfg) (X : Tr) (ops : Array Oper) (env : Env) (H : Heap) (K : Env → Heap → Prop) : Prop :=
  okPlan C.P ops (mkPlan C.P ops) = true ∧ (match (mkPlan C.P ops).pl with
    | none => evOps C X (ops.toList.map (·.dst)) ops.toList env H K
    | some pl => evP C X (ops.toList.map (·.dst)) ops pl env H K)

def evC (C : Cfg) (X : Tr) : Code → Env → Heap → (Ex → Env → Heap → Prop) → Prop
  | .skip, env, H, K => K .normal env H
  | .region _ ops false, env, H, K => evOps C X (ops.toList.map (·.dst)) ops.toList env H (K .normal)
  | .region _ ops true, env, H, K => evD C X ops env H (K .normal)
  | .seq a b, env, H, K => evC C X a env H fun
    | .normal, env', H' => evC C X b env' H' K
    | e, env', H' => K e env' H'
  | .cond c a b, env, H, K => oK (asB (oper env c)) fun t => cK t (fun _ => evC C X a env H K) (fun _ => evC C X b env H K)
  | .block id a, env, H, K => evC C X a env H fun
    | .exit i, env', H' => if i = id then K .normal env' H' else K (.exit i) env' H'
    | e, env', H' => K e env' H'
  | .loop a, env, H, K => X.loop a env H K
  | .rangeFunc f ps assign body, env, H, K =>
    let H1 := H ++ [.loop .ready none env ps assign body]
    let fin : AV → Heap → Prop := fun _ H2 => match H2[H.length]? with
      | some (.loop st pend env' ps' a' b') => st ≠ .busy ∧
          (match pend with
           | none => K .normal env (H2.set H.length (.loop .exhausted pend env' ps' a' b'))
           | some ex => K ex env (H2.set H.length (.loop .exhausted pend env' ps' a' b')))
      | _ => False
    match oper env f with
    | .p (.fn g caps) => (match C.md g with | .imp => X.call g (.yld H.length :: caps.map AV.p) H1 fin | _ => False)
    | .fn g caps => (match C.md g with | .imp => X.call g (.yld H.length :: caps) H1 fin | _ => False)
    | _ => False
  | .exit id, env, H, K => K (.exit id) env H
  | .ret, env, H, K => K .ret env H
  | .label _, env, H, K => K .normal env H
  | .goto l, env, H, K => K (.goto l) env H
  | .scope _, _, _, _ => False
  | .refuse _, _, _, _ => False

def resOf (P : Program) (env : Env) (H : Heap) : ResultVar → Option AV
  | .tmp t => some (env t)
  | .cell a t => evLoad P t (env a) H

def results (P : Program) (env : Env) (H : Heap) : List ResultVar → Option (List AV)
  | [] => some []
  | r :: rs => (resOf P env H r).bind fun v => (results P env H rs).map (v :: ·)

def oneOrTup : List AV → AV
  | [v] => v
  | vs => mkTup vs

def env0 (args : List AV) : Env := fun t => args.getD t .undef

/-- What is asked of a function ahead of its walk: operations of a region that draws its order commute; no slot out of range. -/
def Tr.step (C : Cfg) (ok : FuncId → Bool) (X : Tr) : Tr where
  call f args H Q := match C.P.funcs[f]? with
    | none => False
    | some fn => match fn.body with
      | none => False
      | some c => ok f = true ∧ args.length = fn.params.size + fn.nfree ∧
          evC C X c (env0 args) H fun ex env H' => (match ex with
            | .normal | .ret => oK (results C.P env H' fn.results.toList) fun vs => Q (oneOrTup vs) H'
            | _ => False)
  yield b args H Q := match H[b]? with
    | some (.loop .ready none env ps assign body) => args.length = ps.size ∧
        evC C X assign (fun t => ((ps.toList.zip args).find? (fun q => q.1 == t)).elim (env t) (·.2)) H fun ex env1 H1 => (match ex with
          | .normal => (match H1[b]? with
            | some (.loop .ready none e1 p1 a1 b1) =>
              evC C X body env1 (H1.set b (.loop .busy none e1 p1 a1 b1)) fun ex2 _ H2 => (match H2[b]? with
                | some (.loop .busy none e2 p2 a2 b2) => (match ex2 with
                  | .normal => Q (.p (.bool true)) (H2.set b (.loop .ready none e2 p2 a2 b2))
                  | e => Q (.p (.bool false)) (H2.set b (.loop .done (some e) e2 p2 a2 b2)))
                | _ => False)
            | _ => False)
          | _ => False)
    | _ => False
  loop c env H Q := evC C X c env H fun
    | .normal, env', H' => X.loop c env' H' Q
    | e, env', H' => Q e env' H'

/-- One transformer under another, also behind a weaker end. -/
structure Tr.Le (X Y : Tr) : Prop where
  call : ∀ f a H Q Q', (∀ v H', Q v H' → Q' v H') → X.call f a H Q → Y.call f a H Q'
  yield : ∀ b a H Q Q', (∀ v H', Q v H' → Q' v H') → X.yield b a H Q → Y.yield b a H Q'
  loop : ∀ c e H Q Q', (∀ x e' H', Q x e' H' → Q' x e' H') → X.loop c e H Q → Y.loop c e H Q'

/-- The least transformer that is closed under the code. -/
def W (C : Cfg) (ok : FuncId → Bool) : Tr where
  call f a H Q := ∀ X : Tr, X.Le X → (Tr.step C ok X).Le X → X.call f a H Q
  yield b a H Q := ∀ X : Tr, X.Le X → (Tr.step C ok X).Le X → X.yield b a H Q
  loop c e H Q := ∀ X : Tr, X.Le X → (Tr.step C ok X).Le X → X.loop c e H Q

end Go.Ev
end
section
/- THE EVALUATOR's EQUATIONS, one a case, for simp. -/
namespace Go.Ev
section
variable {C : Cfg} {X : Tr} {P : Program} {env : Env} {H : Heap} {k : AV → Heap → Prop} {K : Ex → Env → Heap → Prop}

theorem upd_apply (e : Env) (a b : Nat) (v : AV) : Env.upd e a v b = if b = a then v else e b := rfl
theorem put_some (e : Env) (a : Nat) (v : AV) : Env.put e (some a) v = Env.upd e a v := rfl
theorem put_none (e : Env) (v : AV) : Env.put e none v = e := rfl
theorem env0_apply (l : List AV) (t : Nat) : env0 l t = l.getD t .undef := rfl
theorem oper_tmp (t : Nat) : oper env (.tmp t) = env t := rfl
theorem oper_func (f : Nat) : oper env (.func f) = .p (.fn f []) := rfl
theorem oper_const (v : Value) : oper env (.const v) = ofVal v := rfl
theorem ofVal_bool (b : Bool) : ofVal (.bool b) = .p (.bool b) := rfl
theorem ofVal_int (j : IntKind) (n : Int) : ofVal (.int j n) = .p (.int j n) := rfl
theorem ofVal_string (s : ByteArray) : ofVal (.string s) = .p (.str s.data.toList) := rfl
theorem ofVal_nptr : ofVal (.pointer none) = .p .nptr := rfl
theorem ofVal_nsl : ofVal (.slice none 0 0) = .nsl := rfl
theorem ofVal_nmap : ofVal (.map none) = .p .nmap := rfl
theorem ofVal_nfn : ofVal .nilFunc = .p .nfn := rfl
theorem ofVal_nif : ofVal .nilIface = .p .nif := rfl

theorem stV_v (P : Program) (t : TypeId) (b o : Nat) (v : AV) (H : Heap) : stV P t (.vptr b o) v H = v := rfl
theorem stH_v (b o : Nat) (v : AV) (H : Heap) : stH (.vptr b o) v H = H := rfl
theorem stV_ep (P : Program) (t : TypeId) (b g i o : Nat) (x : PV) (H : Heap) : stV P t (.eptr b g i o) (.p x) H = .p x := rfl
theorem stH_ep (b g i o : Nat) (x : PV) (H : Heap) : stH (.eptr b g i o) (.p x) H = H := rfl
theorem stV_ea (P : Program) (t : TypeId) (b g i o : Nat) (xs : List AV) (H : Heap) : stV P t (.eptr b g i o) (.agg xs) H = orV ((frzL (frzN P H 3) xs (leafTs P 20 t)).map PV.agg) (.agg xs) := rfl
theorem stH_ea (b g i o : Nat) (xs : List AV) (H : Heap) : stH (.eptr b g i o) (.agg xs) H = freezeIds (xs.flatMap (ids 3)) H := rfl
theorem orV_some (y : PV) (v : AV) : orV (some y) v = .p y := rfl
theorem frPs_nil (P : Program) (e : TypeId) (H : Heap) : frPs P e [] H = [] := rfl
theorem frPs_p (P : Program) (e : TypeId) (i : Nat) (x : PV) (r : List (Nat × AV)) (H : Heap) : frPs P e ((i, .p x) :: r) H = (i, .p x) :: frPs P e r H := rfl
theorem frH_nil (H : Heap) : frH [] H = H := rfl
theorem frH_p (i : Nat) (x : PV) (r : List (Nat × AV)) (H : Heap) : frH ((i, .p x) :: r) H = frH r H := rfl
theorem frPs_a (P : Program) (e : TypeId) (i : Nat) (xs : List AV) (H : Heap) : frPs P e [(i, .agg xs)] H = [(i, orV ((frzL (frzN P H 3) xs (leafTs P 20 e)).map PV.agg) (.agg xs))] := rfl
theorem frH_a (i : Nat) (xs : List AV) (H : Heap) : frH [(i, .agg xs)] H = freezeIds (xs.flatMap (ids 3) ++ []) H := rfl

/-- A call, a loop: where the evaluator stands still. -/
def callK (X : Tr) (f : FuncId) (args : List AV) (H : Heap) (k : AV → Heap → Prop) (_ : Tag k := {}) : Prop := X.call f args H k
def yieldK (X : Tr) (b : Nat) (args : List AV) (H : Heap) (k : AV → Heap → Prop) (_ : Tag k := {}) : Prop := X.yield b args H k
def loopK (X : Tr) (c : Code) (env : Env) (H : Heap) (K : Ex → Env → Heap → Prop) (_ : Tag c := {}) (_ : Tag K := {}) : Prop := X.loop c env H K
def callV (C : Cfg) (X : Tr) (fv : AV) (args : List AV) (H : Heap) (k : AV → Heap → Prop) (_ : Tag k := {}) : Prop := evCallV C X fv args H k
theorem evOp_move (x : Operand) : evOp C X (.move x) env H k = k (oper env x) H := rfl
theorem evOp_assign (x : Operand) : evOp C X (.assign x) env H k = k (oper env x) H := rfl
theorem evOp_pick (c a b : Operand) : evOp C X (.pick c a b) env H k = oK (evPick (oper env c) (oper env a) (oper env b)) fun v => k v H := rfl
theorem evOp_alloc (t : TypeId) : evOp C X (.alloc t) env H k = oK (evAlloc C.P t H) fun r => k r.1 r.2 := rfl
theorem evOp_box (t : TypeId) (x : Operand) : evOp C X (.box t x) env H k = k (.vptr H.length 0) (H ++ [.var true (oper env x)]) := rfl
theorem evOp_build (t : TypeId) (ps : Array (Nat × Operand)) : evOp C X (.build t ps) env H k = oK (evBuild C.P t (ps.toList.map fun q => (q.1, oper env q.2))) fun v => k v H := rfl
theorem evOp_buildSlice (t : TypeId) (n : Nat) (ps : Array (Nat × Operand)) : evOp C X (.buildSlice t n ps) env H k = oK (evBuildSlice C.P t n (frPs C.P (elT C.P t) (ps.toList.map fun q => (q.1, oper env q.2)) H) (frH (ps.toList.map fun q => (q.1, oper env q.2)) H)) fun r => k r.1 r.2 := rfl
theorem evOp_load (t : TypeId) (a : Operand) : evOp C X (.load t a) env H k = oK (evLoad C.P t (oper env a) H) fun v => k v H := rfl
theorem evOp_store (t : TypeId) (a v : Operand) : evOp C X (.store t a v) env H k = oK (evStore C.P t (oper env a) (stV C.P t (oper env a) (oper env v) H) (stH (oper env a) (oper env v) H)) fun H' => k .undef H' := rfl
theorem evOp_nilCheck (x : Operand) : evOp C X (.nilCheck x) env H k = oK (nonNil (oper env x)) fun v => k v H := rfl
/-- A comparison's two ways. -/
def binK (H : Heap) (k : AV → Heap → Prop) : Option AV → Prop
  | some v => k v H
  | none => ∀ b : Bool, k (.p (.bool b)) H
theorem binK_some (v : AV) : binK H k (some v) = k v H := rfl
theorem binK_none : binK H k none = ∀ b : Bool, k (.p (.bool b)) H := rfl
theorem evOp_binOp (op : BinOp) (t : TypeId) (x y : Operand) (u : TypeId) : evOp C X (.binOp op t x y u) env H k = oK (binAV C.P op t (oper env x) (oper env y)) (binK H k) := by
  show oK _ _ = _
  cases binAV C.P op t (oper env x) (oper env y) with
  | none => rfl
  | some o => cases o <;> rfl
theorem evOp_unOp (op : UnOp) (t : TypeId) (x : Operand) : evOp C X (.unOp op t x) env H k = oK ((unP (oper env x)).bind (unPV op)) fun v => k (.p v) H := rfl
theorem evOp_convert (a b : TypeId) (x : Operand) : evOp C X (.convert a b x) env H k = oK (evConvert C.P a b (oper env x) H) fun r => k r.1 r.2 := rfl
theorem evOp_makeFunc (f : FuncId) (caps : Array Operand) : evOp C X (.makeFunc (.func f) #[] caps) env H k = k (mkFn f (caps.toList.map (oper env))) H := rfl
theorem evOp_makeMap (t : TypeId) : evOp C X (.makeMap t none) env H k = oK (tmap C.P t) fun _ => k (.map H.length) (H ++ [.map true 0 [] []]) := rfl
theorem evOp_makeSlice (t : TypeId) (l c : Operand) : evOp C X (.makeSlice t l c) env H k = oK (evMakeSlice C.P t (oper env l) (oper env c) H) fun r => k r.1 r.2 := rfl
theorem evOp_slice (t : TypeId) (x : Operand) (lo hi mx : Option Operand) : evOp C X (.slice t x lo hi mx) env H k = oK (evSlice C.P t (oper env x) (lo.map (oper env)) (hi.map (oper env)) (mx.map (oper env)) H) fun v => k v H := rfl
theorem evOp_fieldAddr (t : TypeId) (x : Operand) (f : Nat) : evOp C X (.fieldAddr t x f) env H k = oK (evFieldAddr C.P t (oper env x) f) fun v => k v H := rfl
theorem evOp_field (t : TypeId) (x : Operand) (f : Nat) : evOp C X (.field t x f) env H k = oK (evField C.P t (oper env x) f) fun v => k v H := rfl
theorem evOp_indexAddr (t : TypeId) (x i : Operand) : evOp C X (.indexAddr t x i) env H k = oK (evIndexAddr C.P t (oper env x) (oper env i) H) fun v => k v H := rfl
theorem evOp_index (t : TypeId) (x i : Operand) : evOp C X (.index t x i) env H k = oK (evIndex C.P t (oper env x) (oper env i)) fun v => k v H := rfl
theorem evOp_lookup (t : TypeId) (m key : Operand) (ok : Bool) : evOp C X (.lookup t m key ok) env H k = oK (evLook C.P t (oper env m) (oper env key) ok H) fun v => k v H := rfl
theorem evOp_mapEntry (t : TypeId) (m key : Operand) : evOp C X (.mapEntry t m key) env H k = oK (evMapEntry C.P t (oper env m) (oper env key) H) fun r => k r.1 r.2 := rfl
theorem evOp_entryStore (t : TypeId) (m e v : Operand) : evOp C X (.entryStore t m e v) env H k = oK (evEntryStore (oper env m) (oper env e) (oper env v) H) fun H' => k .undef H' := rfl
theorem evOp_mapUpdate (t : TypeId) (m key v : Operand) : evOp C X (.mapUpdate t m key v) env H k = oK (evMapUpdate C.P t (oper env m) (oper env key) (oper env v) H) fun H' => k .undef H' := rfl
theorem evOp_range (t : TypeId) (x : Operand) : evOp C X (.range t x) env H k = oK (evRange C.P t (oper env x) H) fun r => k r.1 r.2 := rfl
def nextIt (x : AV) (H : Heap) (k : AV → Heap → Prop) (_ : Tag k := {}) : Prop := match x with
    | .it c => oK (iterOf H c) fun r => nextK H r k
    | _ => False
theorem nextIt_it (c : Nat) (t : Tag k) : nextIt (.it c) H k t = oK (iterOf H c) fun r => nextK H r k := rfl
theorem evOp_next (it : Operand) : evOp C X (.next it false) env H k = nextIt (oper env it) H k := rfl
theorem evOp_extract (x : Operand) (i : Nat) : evOp C X (.extract x i) env H k = oK (evExtract (oper env x) i) fun v => k v H := rfl
theorem evOp_call (f : Operand) (args : Array Operand) (ts : Array TypeId) : evOp C X (.call { callee := .value f, args := args, argTypes := ts }) env H k = callV C X (oper env f) (args.toList.map (oper env)) H k := rfl
theorem evOp_builtin (b : Builtin) (args : Array Operand) (ts : Array TypeId) : evOp C X (.call { callee := .builtin b, args := args, argTypes := ts }) env H k = oK (evBuiltin C.P b ts.toList (args.toList.map (oper env)) H) fun r => k r.1 r.2 := rfl

theorem callV_fn (f : FuncId) (caps : List PV) (args : List AV) (t : Tag k) : callV C X (.p (.fn f caps)) args H k t = evCall C X f (args ++ caps.map AV.p) H k := rfl
theorem callV_fn' (f : FuncId) (caps args : List AV) (t : Tag k) : callV C X (.fn f caps) args H k t = evCall C X f (args ++ caps) H k := rfl
theorem callV_yld (b : Nat) (args : List AV) (t : Tag k) : callV C X (.yld b) args H k t = yieldK X b args H k := rfl

theorem evCall_imp {f : FuncId} (args : List AV) (h : C.md f = .imp) : evCall C X f args H k = callK X f args H k := by simp only [evCall, h, callK]
theorem evCall_ext {f : FuncId} (args : List AV) {spec} (h : C.md f = .ext spec) : evCall C X f args H k = spec args H k := by simp only [evCall, h]
theorem evCall_pure {f : FuncId} (args : List AV) {fn : Func} (h : C.md f = .pure) (hf : C.P.funcs[f]? = some fn) : evCall C X f args H k =
    oK (frzL (frzN C.P H 4) args fn.params.toList) fun pa => callK X f (pa.map AV.p) [] fun av H' => oK (frzR C.P H' fn.resultTypes.toList av) fun r =>
      k (.p r) (if r.flat then H else freezeIds (args.flatMap (ids 4)) H) := by simp only [evCall, h, hf, oK_some, callK]
theorem evCall_own {f : FuncId} (args : List AV) {fn : Func} (h : C.md f = .own) (hf : C.P.funcs[f]? = some fn) : evCall C X f args H k =
    oK (frzL (frzN C.P H 4) args fn.params.toList) fun pa => callK X f (pa.map AV.p) [] fun av H' =>
      oK (takeOwn av H' (freezeIds (args.flatMap (ids 4)) H)) fun r => k r.1 r.2 := by simp only [evCall, h, hf, oK_some, callK]

theorem evOps_nil (D : List (Option Tmp)) (K : Env → Heap → Prop) : evOps C X D [] env H K = K env H := by unfold evOps; rfl
theorem evOps_cons (D : List (Option Tmp)) (dst : Option Tmp) (op : Op) (ty : TypeId) (pos : String) (after : Array Edge) (rest : List Oper) (K : Env → Heap → Prop) :
    evOps C X D (⟨dst, op, ty, pos, after, none⟩ :: rest) env H K = evOp C X op env H fun v H' => evOps C X D rest (env.put dst v) H' K := by rw [evOps]
/-- A guarded operation: which slot is asked, and what is wanted of it. -/
def gd (D : List (Option Tmp)) (j : Nat) : Option Nat := (D[j]?).join
theorem evOps_guard (D : List (Option Tmp)) (dst : Option Tmp) (op : Op) (ty : TypeId) (pos : String) (after : Array Edge) (j : Nat) (want : Bool) (rest : List Oper) (K : Env → Heap → Prop) :
    evOps C X D (⟨dst, op, ty, pos, after, some (j, want)⟩ :: rest) env H K =
      oK (gd D j) fun g => oK (gN want (env g)) fun r =>
      cK r.1 (fun _ => evOp C X op (env.upd g (.p (.bool want))) H fun v H' => evOps C X D rest ((env.upd g (.p (.bool want))).put dst v) H' K)
        (fun _ => evOps C X D rest ((env.upd g r.2).put dst skp) H K) := by rw [evOps, gd]
theorem asB_bool (b : Bool) : asB (.p (.bool b)) = some b := rfl

theorem evC_skip : evC C X .skip env H K = K .normal env H := rfl
theorem evC_region (id : Nat) (l : List Oper) : evC C X (.region id ⟨l⟩ false) env H K = evOps C X (l.map (·.dst)) l env H (K .normal) := rfl
theorem evC_draw (id : Nat) (l : List Oper) : evC C X (.region id ⟨l⟩ true) env H K = evD C X ⟨l⟩ env H (K .normal) := rfl
/-- A region that draws its order, where the text's order is as good as any. -/
theorem evC_text (id : Nat) (l : List Oper) (h : (okPlan C.P ⟨l⟩ (mkPlan C.P ⟨l⟩) && (mkPlan C.P ⟨l⟩).pl.isNone) = true) : evC C X (.region id ⟨l⟩ true) env H K = evOps C X (l.map (·.dst)) l env H (K .normal) := by
  simp only [Bool.and_eq_true, Option.isNone_iff_eq_none] at h
  show evD C X ⟨l⟩ env H (K .normal) = _
  unfold evD
  rw [h.1, h.2]
  simp
/-- What follows a first part. -/
def seqK (K1 : Env → Heap → Prop) (K : Ex → Env → Heap → Prop) : Ex → Env → Heap → Prop
  | .normal, env', H' => K1 env' H'
  | e, env', H' => K e env' H'
theorem seqK_normal (K1 : Env → Heap → Prop) : seqK K1 K .normal env H = K1 env H := rfl
theorem seqK_ret (K1 : Env → Heap → Prop) : seqK K1 K .ret env H = K .ret env H := rfl
theorem seqK_exit (K1 : Env → Heap → Prop) (i : Nat) : seqK K1 K (.exit i) env H = K (.exit i) env H := rfl
theorem seqK_goto (K1 : Env → Heap → Prop) (i : Nat) : seqK K1 K (.goto i) env H = K (.goto i) env H := rfl
theorem evC_seq (a b : Code) : evC C X (.seq a b) env H K = evC C X a env H (seqK (fun env' H' => evC C X b env' H' K) K) := by
  show evC C X a env H _ = _
  congr 1
theorem evC_cond (c : Operand) (a b : Code) : evC C X (.cond c a b) env H K = oK (asB (oper env c)) fun t => cK t (fun _ => evC C X a env H K) (fun _ => evC C X b env H K) := rfl
/-- What follows a block. -/
def blockK (id : Nat) (K : Ex → Env → Heap → Prop) : Ex → Env → Heap → Prop
  | .exit i, env', H' => if i = id then K .normal env' H' else K (.exit i) env' H'
  | e, env', H' => K e env' H'
theorem blockK_normal (id : Nat) : blockK id K .normal env H = K .normal env H := rfl
theorem blockK_ret (id : Nat) : blockK id K .ret env H = K .ret env H := rfl
theorem blockK_goto (id l : Nat) : blockK id K (.goto l) env H = K (.goto l) env H := rfl
theorem blockK_exit (id i : Nat) : blockK id K (.exit i) env H = if i = id then K .normal env H else K (.exit i) env H := rfl
theorem evC_block (id : Nat) (a : Code) : evC C X (.block id a) env H K = evC C X a env H (blockK id K) := by
  show evC C X a env H _ = _
  congr 1
theorem evC_loop (a : Code) : evC C X (.loop a) env H K = loopK X a env H K := rfl
theorem evC_exit (i : Nat) : evC C X (.exit i) env H K = K (.exit i) env H := rfl
theorem evC_ret : evC C X .ret env H K = K .ret env H := rfl
theorem evC_label (i : Nat) : evC C X (.label i) env H K = K .normal env H := rfl
theorem evC_goto (i : Nat) : evC C X (.goto i) env H K = K (.goto i) env H := rfl

/-! data -/
theorem binAV_int (op : BinOp) (t : TypeId) (j j' : IntKind) (a b : Int) : binAV P op t (.p (.int j a)) (.p (.int j' b)) = (binPV op (.int j a) (.int j' b)).map fun r => some (.p r) := rfl
theorem binAV_str (op : BinOp) (t : TypeId) (a b : List UInt8) : binAV P op t (.p (.str a)) (.p (.str b)) = (binPV op (.str a) (.str b)).map fun r => some (.p r) := rfl
theorem binAV_bool_eq {t : TypeId} (h : nilK P t = 5) (a b : Bool) : binAV P .eql t (.p (.bool a)) (.p (.bool b)) = some (some (.p (.bool (a == b)))) := by simp [binAV, eqAV, h, eqNil]
theorem binAV_bool_ne {t : TypeId} (h : nilK P t = 5) (a b : Bool) : binAV P .neq t (.p (.bool a)) (.p (.bool b)) = some (some (.p (.bool (!(a == b))))) := by simp [binAV, eqAV, h, eqNil]
theorem bin_add (k : IntKind) (a b : Int) : binPV .add (.int k a) (.int k b) = some (.int k (k.wrap (a + b))) := by simp [binPV, intBin]
theorem bin_sub (k : IntKind) (a b : Int) : binPV .sub (.int k a) (.int k b) = some (.int k (k.wrap (a - b))) := by simp [binPV, intBin]
theorem bin_mul (k : IntKind) (a b : Int) : binPV .mul (.int k a) (.int k b) = some (.int k (k.wrap (a * b))) := by simp [binPV, intBin]
theorem bin_quo (k : IntKind) (a b : Int) : binPV .quo (.int k a) (.int k b) = if b = 0 then none else some (.int k (k.wrap (a.tdiv b))) := by simp [binPV, intBin]
theorem bin_rem (k : IntKind) (a b : Int) : binPV .rem (.int k a) (.int k b) = if b = 0 then none else some (.int k (a.tmod b)) := by simp [binPV, intBin]
theorem bin_and (k : IntKind) (a b : Int) : binPV .and (.int k a) (.int k b) = some (.int k (k.wrap (BitVec.ofInt k.bits a &&& BitVec.ofInt k.bits b).toNat)) := by simp [binPV, intBin]
theorem bin_or (k : IntKind) (a b : Int) : binPV .or (.int k a) (.int k b) = some (.int k (k.wrap (BitVec.ofInt k.bits a ||| BitVec.ofInt k.bits b).toNat)) := by simp [binPV, intBin]
theorem bin_xor (k : IntKind) (a b : Int) : binPV .xor (.int k a) (.int k b) = some (.int k (k.wrap (BitVec.ofInt k.bits a ^^^ BitVec.ofInt k.bits b).toNat)) := by simp [binPV, intBin]
theorem bin_andNot (k : IntKind) (a b : Int) : binPV .andNot (.int k a) (.int k b) = some (.int k (k.wrap (BitVec.ofInt k.bits a &&& ~~~ BitVec.ofInt k.bits b).toNat)) := by simp [binPV, intBin]
theorem bin_eql (k : IntKind) (a b : Int) : binPV .eql (.int k a) (.int k b) = some (.bool (a == b)) := by simp [binPV, intBin]
theorem bin_neq (k : IntKind) (a b : Int) : binPV .neq (.int k a) (.int k b) = some (.bool (a != b)) := by simp [binPV, intBin]
theorem bin_lss (k : IntKind) (a b : Int) : binPV .lss (.int k a) (.int k b) = some (.bool (decide (a < b))) := by simp [binPV, intBin]
theorem bin_leq (k : IntKind) (a b : Int) : binPV .leq (.int k a) (.int k b) = some (.bool (decide (a ≤ b))) := by simp [binPV, intBin]
theorem bin_gtr (k : IntKind) (a b : Int) : binPV .gtr (.int k a) (.int k b) = some (.bool (decide (b < a))) := by simp [binPV, intBin]
theorem bin_geq (k : IntKind) (a b : Int) : binPV .geq (.int k a) (.int k b) = some (.bool (decide (b ≤ a))) := by simp [binPV, intBin]
theorem bin_shl (k k' : IntKind) (a b : Int) : binPV .shl (.int k a) (.int k' b) = if b < 0 then none else some (.int k (k.wrap (a * 2 ^ min b.toNat k.bits))) := rfl
theorem bin_shr (k k' : IntKind) (a b : Int) : binPV .shr (.int k a) (.int k' b) = if b < 0 then none else some (.int k (a.fdiv (2 ^ min b.toNat k.bits))) := rfl
theorem bin_str (op : BinOp) (a b : List UInt8) : binPV op (.str a) (.str b) = strBin op a b := rfl
theorem str_eql (a b : List UInt8) : strBin .eql a b = some (.bool (a == b)) := rfl
theorem str_neq (a b : List UInt8) : strBin .neq a b = some (.bool (!(a == b))) := rfl
theorem unP_p (x : PV) : unP (.p x) = some x := rfl
theorem un_not (b : Bool) : unPV .not (.bool b) = some (.bool (!b)) := rfl
theorem un_neg (k : IntKind) (n : Int) : unPV .neg (.int k n) = some (.int k (k.wrap (0 - n))) := rfl
theorem pick_true (a b : AV) : evPick (.p (.bool true)) a b = some a := rfl
theorem pick_false (a b : AV) : evPick (.p (.bool false)) a b = some b := rfl
theorem extract_p (xs : List PV) (i : Nat) : evExtract (.p (.tup xs)) i = (xs[i]?).map AV.p := rfl
theorem extract_t (xs : List AV) (i : Nat) : evExtract (.tup xs) i = xs[i]? := rfl

theorem fieldAddr_fp {t : TypeId} {f o sh : Nat} (h : tfield P t f = some (o, sh)) (y : PV) (s off : Nat) : evFieldAddr P t (.p (.fp y s off)) f = some (.p (.fp y s (off + o))) := by simp only [evFieldAddr, h]
theorem fieldAddr_v {t : TypeId} {f o sh : Nat} (h : tfield P t f = some (o, sh)) (b off : Nat) : evFieldAddr P t (.vptr b off) f = some (.vptr b (off + o)) := by simp only [evFieldAddr, h]
theorem fieldAddr_e {t : TypeId} {f o sh : Nat} (h : tfield P t f = some (o, sh)) (b g i off : Nat) : evFieldAddr P t (.eptr b g i off) f = some (.eptr b g i (off + o)) := by simp only [evFieldAddr, h]
theorem load_fp {t : TypeId} {sh : Nat} (h : tsh P t = some sh) (x : PV) (xsh off : Nat) : evLoad P t (.p (.fp x xsh off)) H = (partP x xsh off sh).map AV.p := by simp only [evLoad, h]
/-- What a variable holds at an offset. -/
def ldVar (H : Heap) (b off sh : Nat) : Option AV := match H[b]? with
  | some (.var _ x) => partA x x.shape off sh
  | _ => none
theorem load_v {t : TypeId} {sh : Nat} (h : tsh P t = some sh) (b off : Nat) : evLoad P t (.vptr b off) H = ldVar H b off sh := by simp only [evLoad, h]; rfl
def ldArr (H : Heap) (b g i off sh : Nat) : Option AV := match H[b]? with
  | some (.arr _ g' xsh xs) => if g' = g then (xs[i]?).bind fun x => (partP x xsh off sh).map AV.p else none
  | _ => none
theorem load_e {t : TypeId} {sh : Nat} (h : tsh P t = some sh) (b g i off : Nat) : evLoad P t (.eptr b g i off) H = ldArr H b g i off sh := by simp only [evLoad, h]; rfl
def stVar (H : Heap) (b off sh : Nat) (v : AV) : Option Heap := match H[b]? with
  | some (.var true x) => (withA x off sh v).map fun y => H.set b (.var true y)
  | _ => none
theorem store_v {t : TypeId} {sh : Nat} (h : tsh P t = some sh) (b off : Nat) (v : AV) : evStore P t (.vptr b off) v H = stVar H b off sh v := by
  simp only [evStore, h]; rfl
end
end Go.Ev
end
section
/- WHAT A VALUE OF THE EVALUATOR STANDS FOR IN A WORLD, and that this lasts. -/
namespace Go.Ev

/-- Every place that a code writes is among the first n. -/
def slots (n : Nat) : Code → Bool
  | .region _ ops _ => ops.toList.all fun o => o.dst.all fun t => decide (t < n)
  | .seq a b => slots n a && slots n b
  | .cond _ a b => slots n a && slots n b
  | .block _ a => slots n a
  | .loop a => slots n a
  | .rangeFunc _ ps a b => (ps.toList.all fun t => decide (t < n)) && decide ps.toList.Nodup && slots n a && slots n b
  | _ => true

def cellsAt (w : World) (b o : Nat) (cs : List Value) : Prop := ∀ j v, cs[j]? = some v → w.cell? ⟨b, o + j, none⟩ = some v
def vshape : Value → Nat
  | .agg cs => cs.size
  | _ => 0

/-- Entries' births: each its own, all ahead of the clock. -/
def Births (es : Array MapEntry) (clock : Nat) : Prop :=
  (∀ (i : Nat) (e : MapEntry), es[i]? = some e → e.born < clock) ∧ ∀ (i j : Nat) (e e' : MapEntry), es[i]? = some e → es[j]? = some e' → e.born = e'.born → i = j

mutual
def RP (w : World) (Z : Nat → Prop) : PV → Value → Prop
  | .bool b, v => v = .bool b
  | .int k n, v => v = .int k n
  | .str s, v => v = .string ⟨s.toArray⟩
  | .agg xs, v => xs ≠ [] ∧ ∃ cs : List Value, v = .agg cs.toArray ∧ RPs w Z xs cs ∧ ∀ c ∈ cs, c.oneCell' = true
  | .tup xs, v => ∃ cs : List Value, v = .tuple cs.toArray ∧ RPs w Z xs cs
  | .sl sh xs, v => ∃ a len cap, v = .slice a len cap ∧ len = xs.length ∧ len ≤ cap ∧
      ((len = 0 ∧ cap = 0) ∨ ∃ b o, a = some ⟨b, o, none⟩ ∧ Z b ∧ RM w Z sh xs b o)
  | .nptr, v => v = .pointer none
  | .fp x sh off, v => ∃ b o, v = .pointer (some ⟨b, o + off, none⟩) ∧ Z b ∧ ∃ u, RP w Z x u ∧ vshape u = sh ∧ cellsAt w b o u.cells.toList
  | .nfn, v => v = .nilFunc
  | .fn f caps, v => ∃ cs : List Value, v = .func (.func f) #[] cs.toArray ∧ RPs w Z caps cs
  | .nmap, v => v = .map none
  | .fmap ks vs, v => ∃ r es clock, v = .map (some r) ∧ Z r ∧ w.heap[r]? = some (.map es clock) ∧ RPs w Z ks (es.toList.map (·.key)) ∧ RPs w Z vs (es.toList.map (·.val)) ∧ Births es clock
  | .nif, v => v = .nilIface
  | .iface t x, v => ∃ u, v = .iface t u ∧ RP w Z x u
def RPs (w : World) (Z : Nat → Prop) : List PV → List Value → Prop
  | [], cs => cs = []
  | x :: xs, cs => ∃ v r, cs = v :: r ∧ RP w Z x v ∧ RPs w Z xs r
def RM (w : World) (Z : Nat → Prop) (sh : Nat) : List PV → Nat → Nat → Prop
  | [], _, _ => True
  | x :: xs, b, o => (x.stor = true ∧ ∃ u, RP w Z x u ∧ vshape u = sh ∧ cellsAt w b o u.cells.toList) ∧ RM w Z sh xs b (o + stride sh)
end

/-- The evaluator's state beside a world: its blocks' places, and which of the world's blocks never change. -/
structure St where
  H : Heap
  w : World
  ι : Nat → Nat
  Z : Nat → Prop
  β : Nat → Nat := fun _ => 0

/-- What kind a block is, and its generation. -/
inductive Kd where
  | arr (g sh : Nat) | var | map (g : Nat) | oth (loop : Bool)
def kd (H : Heap) (b : Nat) : Option Kd :=
  match H[b]? with
  | some (.arr _ g sh _) => some (.arr g sh)
  | some (.var _ _) => some .var
  | some (.map _ g _ _) => some (.map g)
  | some (.loop ..) => some (.oth true)
  | some _ => some (.oth false)
  | none => none
def live (H : Heap) (b : Nat) : Prop :=
  match H[b]? with
  | some (.arr l _ _ _) | some (.var l _) | some (.map l _ _ _) => l = true
  | some _ => True
  | none => False
def csize (w : World) (k : Nat) : Nat :=
  match w.heap[k]? with
  | some (.cells c _ _) => c.size
  | _ => 0

mutual
def RA (s : St) : AV → Value → Prop
  | .p x, v => RP s.w s.Z x v
  | .undef, _ => True
  | .nsl, v => v = .slice none 0 0
  | .agg xs, v => xs ≠ [] ∧ ∃ cs : List Value, v = .agg cs.toArray ∧ RAs s xs cs ∧ ∀ c ∈ cs, c.oneCell' = true
  | .tup xs, v => ∃ cs : List Value, v = .tuple cs.toArray ∧ RAs s xs cs
  | .ref b g off len ex, v => ∃ a cap g0 sh, v = .slice (some a) len cap ∧ kd s.H b = some (.arr g0 sh) ∧ g ≤ g0 ∧
      (g = g0 → (∃ o, a = ⟨s.ι b, o, none⟩ ∧ (o = s.β b + off * stride sh ∨ cap = 0)) ∧ len ≤ cap ∧ s.β b + (off + cap) * stride sh ≤ csize s.w (s.ι b) ∧ (ex = true → cap = len))
  | .vptr b off, v => kd s.H b = some .var ∧ v = .pointer (some ⟨s.ι b, off, none⟩)
  | .eptr b g i off, v => ∃ a g0 sh, v = .pointer (some a) ∧ kd s.H b = some (.arr g0 sh) ∧ g ≤ g0 ∧ (g = g0 → a = ⟨s.ι b, s.β b + (i * stride sh + off), none⟩)
  | .fn f caps, v => ∃ cs : List Value, v = .func (.func f) #[] cs.toArray ∧ RAs s caps cs
  | .yld b, v => kd s.H b = some (.oth true) ∧ v = .func (.yield (s.ι b)) #[] #[]
  | .map b, v => (∃ g, kd s.H b = some (.map g)) ∧ v = .map (some (s.ι b))
  | .it b, v => kd s.H b = some (.oth false) ∧ v = .pointer (some ⟨s.ι b, 0, none⟩)
  | .stm b g j, v => ∃ g0 n, kd s.H b = some (.map g0) ∧ g ≤ g0 ∧ v = .int .i64 n ∧ (g = g0 → ∃ es clock e, s.w.heap[s.ι b]? = some (.map es clock) ∧ es[j]? = some e ∧ n = (e.born : Nat))
def RAs (s : St) : List AV → List Value → Prop
  | [], cs => cs = []
  | x :: xs, cs => ∃ v r, cs = v :: r ∧ RA s x v ∧ RAs s xs r
end

def REnv (s : St) (env : Env) (tmps : Array Value) : Prop := ∀ t, RA s (env t) (tmps.getD t undef)

def exCode : Ex → Option Code
  | .normal => none
  | .ret => some .ret
  | .exit i => some (.exit i)
  | .goto l => some (.goto l)

/-- An iterator's places that are left, against its record of what it has seen. -/
def IterInv (es : Array MapEntry) (clock : Nat) (todo : List Nat) (since : Nat) (seen : Array Nat) (stepped : Nat) : Prop :=
  since = clock ∧ stepped = clock ∧ todo.tail.Nodup ∧ (∀ j ∈ todo.tail, j < es.size) ∧ (∀ (j : Nat) (e : MapEntry), es[j]? = some e → (j ∈ todo.tail ↔ seen.contains e.born = false)) ∧
    (∀ j : Nat, todo.head? = some (j + 1) → ∃ e, es[j]? = some e ∧ seen.back? = some e.born)

def RB (s : St) (b : Nat) : Blk → Prop
  | .arr live _ sh xs => ∃ c e lo hi, s.w.heap[s.ι b]? = some (.cells c e (lo, hi)) ∧ (∀ j, ¬ (lo ≤ j ∧ j < hi)) ∧
      RM s.w s.Z sh xs (s.ι b) (s.β b) ∧ s.β b + xs.length * stride sh ≤ c.size ∧ (live = false → s.Z (s.ι b))
  | .var live x => ∃ v e lo hi, RA s x v ∧ s.w.heap[s.ι b]? = some (.cells v.cells e (lo, hi)) ∧ (∀ j, j < v.cells.size → ¬ (lo ≤ j ∧ j < hi)) ∧ (live = false → s.Z (s.ι b))
  | .map live _ ks vs => ∃ es clock, s.w.heap[s.ι b]? = some (.map es clock) ∧ RPs s.w s.Z ks (es.toList.map (·.key)) ∧ RAs s vs (es.toList.map (·.val)) ∧
      Births es clock ∧ (live = false → s.Z (s.ι b))
  | .mit m g todo => ∃ since seen stepped g0, s.w.heap[s.ι b]? = some (.mapIter (some (s.ι m)) since seen stepped) ∧ kd s.H m = some (.map g0) ∧ g ≤ g0 ∧
      (g = g0 → ∃ es clock, s.w.heap[s.ι m]? = some (.map es clock) ∧ IterInv es clock todo since seen stepped)
  | .fit ks vs todo => ∃ mo since seen stepped, s.w.heap[s.ι b]? = some (.mapIter mo since seen stepped) ∧
      ((mo = none ∧ ks = [] ∧ vs = [] ∧ todo = []) ∨ ∃ r es clock, mo = some r ∧ s.Z r ∧ s.w.heap[r]? = some (.map es clock) ∧ Births es clock ∧
        RPs s.w s.Z ks (es.toList.map (·.key)) ∧ RPs s.w s.Z vs (es.toList.map (·.val)) ∧ IterInv es clock todo since seen stepped)
  | .loop st pend env ps a c => ∃ L : Loop, s.w.heap[s.ι b]? = some (.loop L) ∧ L.state = st ∧ L.pending = pend.bind exCode ∧ (∀ e, pend = some e → e ≠ .normal) ∧
      L.params = ps ∧ L.assign = a ∧ L.body = c ∧ REnv s env L.tmps ∧
      slots L.tmps.size a = true ∧ slots L.tmps.size c = true ∧ (∀ t ∈ ps.toList, t < L.tmps.size) ∧ ps.toList.Nodup

/-- A map's entries keep their births. -/
def Born (w w' : World) (k : Nat) : Prop := ∀ es clock, w.heap[k]? = some (.map es clock) → ∃ es' clock', w'.heap[k]? = some (.map es' clock') ∧ ∀ (j : Nat) (e : MapEntry), es[j]? = some e → ∃ e' : MapEntry, es'[j]? = some e' ∧ e'.born = e.born
theorem Born.same {w w' : World} {k : Nat} (h : w'.heap[k]? = w.heap[k]?) : Born w w' k := fun es clock he => ⟨es, clock, h.trans he, fun _ e he => ⟨e, he, rfl⟩⟩
theorem Born.trans {a b c : World} {k : Nat} (h : Born a b k) (h' : Born b c k) : Born a c k := fun es clock he => by
  obtain ⟨es1, c1, k1, k2⟩ := h es clock he
  obtain ⟨es2, c2, k3, k4⟩ := h' es1 c1 k1
  refine ⟨es2, c2, k3, fun j e hj => ?_⟩
  obtain ⟨e1, m1, m2⟩ := k2 j e hj
  obtain ⟨e2, m3, m4⟩ := k4 j e1 m1
  exact ⟨e2, m3, m4.trans m2⟩

structure WF (s : St) : Prop where
  inj : ∀ b b', b < s.H.length → b' < s.H.length → s.ι b = s.ι b' → b = b'
  bnd : ∀ b, b < s.H.length → s.ι b < s.w.heap.size
  zb : ∀ k, s.Z k → k < s.w.heap.size
  zl : ∀ b, live s.H b → ¬ s.Z (s.ι b)
  blk : ∀ b x, s.H[b]? = some x → RB s b x

/-- From one state to a later one. -/
structure Evo (s s' : St) : Prop where
  len : s.H.length ≤ s'.H.length
  size : s.w.heap.size ≤ s'.w.heap.size
  arr : ∀ b g sh, kd s.H b = some (.arr g sh) → ∃ g', kd s'.H b = some (.arr g' sh) ∧ g ≤ g' ∧ (g = g' → s'.ι b = s.ι b ∧ csize s'.w (s.ι b) = csize s.w (s.ι b) ∧ s'.β b = s.β b)
  var : ∀ b, kd s.H b = some .var → kd s'.H b = some .var ∧ s'.ι b = s.ι b
  map : ∀ b g, kd s.H b = some (.map g) → ∃ g', kd s'.H b = some (.map g') ∧ g ≤ g' ∧ s'.ι b = s.ι b ∧ (g = g' → Born s.w s'.w (s.ι b))
  oth : ∀ b l, kd s.H b = some (.oth l) → kd s'.H b = some (.oth l) ∧ s'.ι b = s.ι b
  new : ∀ b, b < s'.H.length → s'.ι b < s.w.heap.size → b < s.H.length ∧ s'.ι b = s.ι b ∧ (live s'.H b → live s.H b)
  fr : ∀ k, k < s.w.heap.size → (∀ b, live s.H b → s.ι b ≠ k) → s'.w.heap[k]? = s.w.heap[k]?
  Zm : ∀ k, s.Z k → s'.Z k
  zn : ∀ k, s'.Z k → k < s.w.heap.size → s.Z k ∨ ∃ b, live s.H b ∧ s.ι b = k
  os : s'.w.os = s.w.os
  tape : s'.w.tape = s.w.tape
  output : s'.w.output = s.w.output

theorem Evo.refl (s : St) : Evo s s where
  len := Nat.le_refl _
  size := Nat.le_refl _
  arr := fun b g sh h => ⟨g, h, Nat.le_refl _, fun _ => ⟨rfl, rfl, rfl⟩⟩
  var := fun b h => ⟨h, rfl⟩
  map := fun b g h => ⟨g, h, Nat.le_refl _, rfl, fun _ => Born.same rfl⟩
  oth := fun b _ h => ⟨h, rfl⟩
  new := fun b h _ => ⟨h, rfl, id⟩
  fr := fun _ _ _ => rfl
  Zm := fun _ h => h
  zn := fun _ h _ => .inl h
  os := rfl
  tape := rfl
  output := rfl

theorem live_lt {H : Heap} {b : Nat} (h : live H b) : b < H.length := by
  unfold live at h
  rcases Nat.lt_or_ge b H.length with h1 | h1
  · exact h1
  · rw [List.getElem?_eq_none h1] at h; exact h.elim

theorem WF.zkeep {s s' : St} (hw : WF s) (e : Evo s s') : ∀ k, s.Z k → s'.w.heap[k]? = s.w.heap[k]? :=
  fun k hk => e.fr k (hw.zb k hk) (fun b hb he => hw.zl b hb (he ▸ hk))

theorem Evo.trans {a b c : St} (h : Evo a b) (k : Evo b c) : Evo a c where
  len := Nat.le_trans h.len k.len
  size := Nat.le_trans h.size k.size
  arr := fun x g sh hx => by
    obtain ⟨g1, h1, hle, he⟩ := h.arr x g sh hx
    obtain ⟨g2, h2, hle2, he2⟩ := k.arr x g1 sh h1
    refine ⟨g2, h2, Nat.le_trans hle hle2, fun e => ?_⟩
    have e1 : g = g1 := by omega
    have e2 : g1 = g2 := by omega
    obtain ⟨i1, c1, b1⟩ := he e1
    obtain ⟨i2, c2, b2⟩ := he2 e2
    exact ⟨i2.trans i1, by rw [← c1, ← i1]; exact c2, b2.trans b1⟩
  var := fun x hx => by
    obtain ⟨h1, i1⟩ := h.var x hx
    obtain ⟨h2, i2⟩ := k.var x h1
    exact ⟨h2, i2.trans i1⟩
  map := fun x g hx => by
    obtain ⟨g1, h1, l1, i1, n1⟩ := h.map x g hx
    obtain ⟨g2, h2, l2, i2, n2⟩ := k.map x g1 h1
    refine ⟨g2, h2, Nat.le_trans l1 l2, i2.trans i1, fun e => ?_⟩
    have m2 := n2 (by omega)
    rw [i1] at m2
    exact (n1 (by omega)).trans m2
  oth := fun x l hx => by
    obtain ⟨h1, i1⟩ := h.oth x l hx
    obtain ⟨h2, i2⟩ := k.oth x l h1
    exact ⟨h2, i2.trans i1⟩
  new := fun x hx hlt => by
    obtain ⟨h1, i1, l1⟩ := k.new x hx (Nat.lt_of_lt_of_le hlt h.size)
    obtain ⟨h2, i2, l2⟩ := h.new x h1 (i1 ▸ hlt)
    exact ⟨h2, i1.trans i2, fun l => l2 (l1 l)⟩
  fr := fun x hx hne => by
    have h1 := h.fr x hx hne
    have h2 := k.fr x (Nat.lt_of_lt_of_le hx h.size) (fun y hy he => by
      have hlt := live_lt hy
      obtain ⟨h3, i3, l3⟩ := h.new y hlt (he ▸ hx)
      exact hne y (l3 hy) (i3 ▸ he))
    exact h2.trans h1
  Zm := fun x hx => k.Zm x (h.Zm x hx)
  zn := fun x hx hlt => by
    rcases k.zn x hx (Nat.lt_of_lt_of_le hlt h.size) with h1 | ⟨y, hy, he⟩
    · exact h.zn x h1 hlt
    · obtain ⟨h3, i3, l3⟩ := h.new y (live_lt hy) (he ▸ hlt)
      exact .inr ⟨y, l3 hy, i3 ▸ he⟩
  os := k.os.trans h.os
  tape := k.tape.trans h.tape
  output := k.output.trans h.output

/-! ### data last -/
theorem cell?_of_heap {w w' : World} {b : Nat} (h : w'.heap[b]? = w.heap[b]?) (o : Nat) : w'.cell? ⟨b, o, none⟩ = w.cell? ⟨b, o, none⟩ := by simp [World.cell?, h]
theorem cellsAt.of_heap {w w' : World} {b o : Nat} {cs : List Value} (h : w'.heap[b]? = w.heap[b]?) (k : cellsAt w b o cs) : cellsAt w' b o cs :=
  fun j v hv => (cell?_of_heap h _).trans (k j v hv)

mutual
theorem RP_mono {w w' : World} {Z Z' : Nat → Prop} (hZ : ∀ k, Z k → Z' k) (hw : ∀ k, Z k → w'.heap[k]? = w.heap[k]?) : ∀ (x : PV) (v : Value), RP w Z x v → RP w' Z' x v
  | .bool _, _, h | .int _ _, _, h | .str _, _, h | .nptr, _, h | .nfn, _, h | .nmap, _, h | .nif, _, h => by simpa only [RP] using h
  | .agg xs, v, h => by
    simp only [RP] at h ⊢
    obtain ⟨hn, cs, e, h, hc⟩ := h
    exact ⟨hn, cs, e, RPs_mono hZ hw xs cs h, hc⟩
  | .tup xs, v, h => by
    simp only [RP] at h ⊢
    obtain ⟨cs, e, h⟩ := h
    exact ⟨cs, e, RPs_mono hZ hw xs cs h⟩
  | .sl sh xs, v, h => by
    simp only [RP] at h ⊢
    obtain ⟨a, len, cap, e, hl, hc, h⟩ := h
    refine ⟨a, len, cap, e, hl, hc, ?_⟩
    rcases h with h | ⟨b, o, ha, hz, hm⟩
    · exact .inl h
    · exact .inr ⟨b, o, ha, hZ b hz, RM_mono hZ hw sh xs b o (hw b hz) hm⟩
  | .fp x sh off, v, h => by
    simp only [RP] at h ⊢
    obtain ⟨b, o, e, hz, u, hu, hs, hc⟩ := h
    exact ⟨b, o, e, hZ b hz, u, RP_mono hZ hw x u hu, hs, hc.of_heap (hw b hz)⟩
  | .fn f caps, v, h => by
    simp only [RP] at h ⊢
    obtain ⟨cs, e, h⟩ := h
    exact ⟨cs, e, RPs_mono hZ hw caps cs h⟩
  | .fmap ks vs, v, h => by
    simp only [RP] at h ⊢
    obtain ⟨r, es, clock, e, hz, hh, h1, h2, h3⟩ := h
    exact ⟨r, es, clock, e, hZ r hz, (hw r hz).trans hh, RPs_mono hZ hw ks _ h1, RPs_mono hZ hw vs _ h2, h3⟩
  | .iface t x, v, h => by
    simp only [RP] at h ⊢
    obtain ⟨u, e, h⟩ := h
    exact ⟨u, e, RP_mono hZ hw x u h⟩
theorem RPs_mono {w w' : World} {Z Z' : Nat → Prop} (hZ : ∀ k, Z k → Z' k) (hw : ∀ k, Z k → w'.heap[k]? = w.heap[k]?) : ∀ (xs : List PV) (cs : List Value), RPs w Z xs cs → RPs w' Z' xs cs
  | [], _, h => by simpa only [RPs] using h
  | x :: xs, cs, h => by
    simp only [RPs] at h ⊢
    obtain ⟨v, r, e, h1, h2⟩ := h
    exact ⟨v, r, e, RP_mono hZ hw x v h1, RPs_mono hZ hw xs r h2⟩
theorem RM_mono {w w' : World} {Z Z' : Nat → Prop} (hZ : ∀ k, Z k → Z' k) (hw : ∀ k, Z k → w'.heap[k]? = w.heap[k]?) : ∀ (sh : Nat) (xs : List PV) (b o : Nat), w'.heap[b]? = w.heap[b]? → RM w Z sh xs b o → RM w' Z' sh xs b o
  | _, [], _, _, _, _ => by simp only [RM]
  | sh, x :: xs, b, o, hb, h => by
    simp only [RM] at h ⊢
    obtain ⟨⟨ht, u, hu, hs, hc⟩, h2⟩ := h
    exact ⟨⟨ht, u, RP_mono hZ hw x u hu, hs, hc.of_heap hb⟩, RM_mono hZ hw sh xs b _ hb h2⟩
end

/-- What is asked of a later state that values may last. -/
structure Ext (s s' : St) : Prop where
  arr : ∀ b g sh, kd s.H b = some (.arr g sh) → ∃ g', kd s'.H b = some (.arr g' sh) ∧ g ≤ g' ∧ (g = g' → s'.ι b = s.ι b ∧ csize s'.w (s.ι b) = csize s.w (s.ι b) ∧ s'.β b = s.β b)
  var : ∀ b, kd s.H b = some .var → kd s'.H b = some .var ∧ s'.ι b = s.ι b
  map : ∀ b g, kd s.H b = some (.map g) → ∃ g', kd s'.H b = some (.map g') ∧ g ≤ g' ∧ s'.ι b = s.ι b ∧ (g = g' → Born s.w s'.w (s.ι b))
  oth : ∀ b l, kd s.H b = some (.oth l) → kd s'.H b = some (.oth l) ∧ s'.ι b = s.ι b
  Zm : ∀ k, s.Z k → s'.Z k
  zk : ∀ k, s.Z k → s'.w.heap[k]? = s.w.heap[k]?
theorem Evo.ext {s s' : St} (hs : WF s) (e : Evo s s') : Ext s s' := ⟨e.arr, e.var, e.map, e.oth, e.Zm, hs.zkeep e⟩

mutual
theorem RA_ext {s s' : St} (e : Ext s s') : ∀ (x : AV) (v : Value), RA s x v → RA s' x v
  | .p x, v, h => by
    simp only [RA] at h ⊢
    exact RP_mono e.Zm (e.zk) x v h
  | .undef, _, _ => by simp only [RA]
  | .nsl, _, h => by simpa only [RA] using h
  | .agg xs, v, h => by
    simp only [RA] at h ⊢
    obtain ⟨hn, cs, ev, h, hc⟩ := h
    exact ⟨hn, cs, ev, RAs_ext e xs cs h, hc⟩
  | .tup xs, v, h => by
    simp only [RA] at h ⊢
    obtain ⟨cs, ev, h⟩ := h
    exact ⟨cs, ev, RAs_ext e xs cs h⟩
  | .ref b g off len ex, v, h => by
    simp only [RA] at h ⊢
    obtain ⟨a, cap, g0, sh, ev, hk, hle, h⟩ := h
    obtain ⟨g', hk', hle', hi⟩ := e.arr b g0 sh hk
    refine ⟨a, cap, g', sh, ev, hk', Nat.le_trans hle hle', fun eg => ?_⟩
    obtain ⟨h1, h2, h3, h4⟩ := h (by omega)
    obtain ⟨i1, i2, i3⟩ := hi (by omega)
    exact ⟨by rw [i1, i3]; exact h1, h2, by rw [i1, i2, i3]; exact h3, h4⟩
  | .vptr b off, v, h => by
    simp only [RA] at h ⊢
    obtain ⟨hk, ev⟩ := h
    obtain ⟨h1, h2⟩ := e.var b hk
    exact ⟨h1, by rw [h2]; exact ev⟩
  | .eptr b g i off, v, h => by
    simp only [RA] at h ⊢
    obtain ⟨a, g0, sh, ev, hk, hle, h⟩ := h
    obtain ⟨g', hk', hle', hi⟩ := e.arr b g0 sh hk
    refine ⟨a, g', sh, ev, hk', Nat.le_trans hle hle', fun eg => ?_⟩
    obtain ⟨i1, _, i3⟩ := hi (by omega)
    rw [i1, i3]; exact h (by omega)
  | .fn f caps, v, h => by
    simp only [RA] at h ⊢
    obtain ⟨cs, ev, h⟩ := h
    exact ⟨cs, ev, RAs_ext e caps cs h⟩
  | .yld b, v, h => by
    simp only [RA] at h ⊢
    obtain ⟨h1, h2⟩ := e.oth b _ h.1
    exact ⟨h1, by rw [h2]; exact h.2⟩
  | .map b, v, h => by
    simp only [RA] at h ⊢
    obtain ⟨⟨g, hg⟩, hv⟩ := h
    obtain ⟨g', h1, _, h2, _⟩ := e.map b g hg
    exact ⟨⟨g', h1⟩, by rw [h2]; exact hv⟩
  | .it b, v, h => by
    simp only [RA] at h ⊢
    obtain ⟨h1, h2⟩ := e.oth b _ h.1
    exact ⟨h1, by rw [h2]; exact h.2⟩
  | .stm b g j, v, h => by
    simp only [RA] at h ⊢
    obtain ⟨g0, n, hk, hle, hv, h⟩ := h
    obtain ⟨g', h1, h2, h3, h4⟩ := e.map b g0 hk
    refine ⟨g', n, h1, Nat.le_trans hle h2, hv, fun eg => ?_⟩
    obtain ⟨es, clock, q, k1, k2, k3⟩ := h (by omega)
    obtain ⟨es', clock', k4, k5⟩ := h4 (by omega) es clock k1
    obtain ⟨q', k6, k7⟩ := k5 j q k2
    exact ⟨es', clock', q', by rw [h3]; exact k4, k6, by rw [k7]; exact k3⟩
theorem RAs_ext {s s' : St} (e : Ext s s') : ∀ (xs : List AV) (cs : List Value), RAs s xs cs → RAs s' xs cs
  | [], _, h => by simpa only [RAs] using h
  | x :: xs, cs, h => by
    simp only [RAs] at h ⊢
    obtain ⟨v, r, ev, h1, h2⟩ := h
    exact ⟨v, r, ev, RA_ext e x v h1, RAs_ext e xs r h2⟩
end

theorem RA_mono {s s' : St} (hs : WF s) (e : Evo s s') (x : AV) (v : Value) (h : RA s x v) : RA s' x v := RA_ext (e.ext hs) x v h
theorem RAs_mono {s s' : St} (hs : WF s) (e : Evo s s') (xs : List AV) (cs : List Value) (h : RAs s xs cs) : RAs s' xs cs := RAs_ext (e.ext hs) xs cs h

theorem REnv.ext {s s' : St} (e : Ext s s') {env : Env} {tmps : Array Value} (h : REnv s env tmps) : REnv s' env tmps :=
  fun t => RA_ext e _ _ (h t)
theorem REnv.mono {s s' : St} (hs : WF s) (e : Evo s s') {env : Env} {tmps : Array Value} (h : REnv s env tmps) : REnv s' env tmps :=
  fun t => RA_mono hs e _ _ (h t)

end Go.Ev
end
section
/- STATES THAT FOLLOW: a new block, a block rewritten, draws, frozen blocks. -/
namespace Go.Ev

def MapsKept (s s' : St) : Prop := ∀ m g, kd s.H m = some (.map g) → kd s'.H m = some (.map g) →
  ∀ es clock, s.w.heap[s.ι m]? = some (.map es clock) → ∃ es' : Array MapEntry, s'.w.heap[s.ι m]? = some (.map es' clock) ∧ es'.size = es.size ∧
    ∀ (j : Nat) (e : MapEntry), es'[j]? = some e → ∃ e0 : MapEntry, es[j]? = some e0 ∧ e0.born = e.born

theorem kd_oth {H : Heap} {b : Nat} {x : Blk} (hb : H[b]? = some x) {l : Bool} (h : kd H b = some (.oth l)) : live H b := by
  unfold kd at h; unfold live
  rw [hb] at h ⊢
  cases x <;> simp_all

theorem RB_ext {s s' : St} (e : Ext s s') {b : Nat} {x : Blk} (h : RB s b x) (hι : s'.ι b = s.ι b) (hβ : s'.β b = s.β b)
    (hh : s'.w.heap[s.ι b]? = s.w.heap[s.ι b]?) (hm : MapsKept s s') : RB s' b x := by
  cases x with
  | arr l g sh xs =>
    simp only [RB] at h ⊢
    rw [hι, hβ]
    obtain ⟨c, t, lo, hi, h1, h2, h3, h4, h5⟩ := h
    exact ⟨c, t, lo, hi, hh.trans h1, h2, RM_mono e.Zm (e.zk) sh xs _ _ hh h3, h4, fun hl => e.Zm _ (h5 hl)⟩
  | var l x =>
    simp only [RB] at h ⊢
    rw [hι]
    obtain ⟨v, t, lo, hi, h1, h2, h3, h4⟩ := h
    exact ⟨v, t, lo, hi, RA_ext e x v h1, hh.trans h2, h3, fun hl => e.Zm _ (h4 hl)⟩
  | map l g ks vs =>
    simp only [RB] at h ⊢
    rw [hι]
    obtain ⟨es, clock, h1, h2, h3, h4, h5⟩ := h
    exact ⟨es, clock, hh.trans h1, RPs_mono e.Zm (e.zk) ks _ h2, RAs_ext e vs _ h3, h4, fun hl => e.Zm _ (h5 hl)⟩
  | mit m g todo =>
    simp only [RB] at h ⊢
    rw [hι]
    obtain ⟨since, seen, stepped, g0, h1, h2, h3, h4⟩ := h
    obtain ⟨g', k1, k2, k3, _⟩ := e.map m g0 h2
    refine ⟨since, seen, stepped, g', (by rw [k3]; exact hh.trans h1), k1, Nat.le_trans h3 k2, fun eg => ?_⟩
    have eg0 : g0 = g' := by omega
    obtain ⟨es, clock, h5, h6⟩ := h4 (by omega)
    obtain ⟨es', h7, h8, h9⟩ := hm m g0 h2 (by rw [eg0]; exact k1) es clock h5
    refine ⟨es', clock, (by rw [k3]; exact h7), h6.1, h6.2.1, h6.2.2.1, fun j hj => by rw [h8]; exact h6.2.2.2.1 j hj, fun j q hq => ?_, fun j hj => ?_⟩
    · obtain ⟨e0, h10, h11⟩ := h9 j q hq
      rw [← h11]
      exact h6.2.2.2.2.1 j e0 h10
    · obtain ⟨e0, h10, h11⟩ := h6.2.2.2.2.2 j hj
      have hlt : j < es'.size := by rw [h8]; exact (Array.getElem?_eq_some_iff.1 h10).1
      obtain ⟨e1, h12, h13⟩ := h9 j es'[j] (by simp [hlt])
      rw [h10] at h12
      cases h12
      exact ⟨es'[j], by simp [hlt], by rw [h11, h13]⟩
  | fit ks vs todo =>
    simp only [RB] at h ⊢
    rw [hι]
    obtain ⟨mo, since, seen, stepped, h1, h2⟩ := h
    refine ⟨mo, since, seen, stepped, hh.trans h1, ?_⟩
    rcases h2 with h2 | ⟨r, es, clock, h3, h4, h5, h6, h7, h8, h9⟩
    · exact .inl h2
    · exact .inr ⟨r, es, clock, h3, e.Zm r h4, (e.zk r h4).trans h5, h6, RPs_mono e.Zm (e.zk) ks _ h7, RPs_mono e.Zm (e.zk) vs _ h8, h9⟩
  | loop st pend env ps a c =>
    simp only [RB] at h ⊢
    rw [hι]
    obtain ⟨L, h1, h2, h3, h3', h4, h5, h6, h7, h8⟩ := h
    exact ⟨L, hh.trans h1, h2, h3, h3', h4, h5, h6, h7.ext e, h8⟩

theorem RB_keep {s s' : St} (hs : WF s) (e : Evo s s') {b : Nat} {x : Blk} (hb : s.H[b]? = some x) (hι : s'.ι b = s.ι b) (hβ : s'.β b = s.β b)
    (hh : s'.w.heap[s.ι b]? = s.w.heap[s.ι b]?) (hm : MapsKept s s') : RB s' b x := RB_ext (e.ext hs) (hs.blk b x hb) hι hβ hh hm

/-! ### the heap as it was -/
theorem MapsKept.of_heap {s s' : St} (hι : ∀ b, s'.ι b = s.ι b) (h : ∀ m g, kd s.H m = some (.map g) → kd s'.H m = some (.map g) → s'.w.heap[s.ι m]? = s.w.heap[s.ι m]?) : MapsKept s s' :=
  fun m g h1 h2 es clock h3 => ⟨es, (h m g h1 h2).trans h3, rfl, fun _ e he => ⟨e, he, rfl⟩⟩

def St.withW (s : St) (w : World) : St := { s with w := w }
theorem Evo.withW (s : St) (w : World) (hh : w.heap = s.w.heap) (h1 : w.os = s.w.os) (h2 : w.tape = s.w.tape) (h3 : w.output = s.w.output) : Evo s (s.withW w) where
  len := Nat.le_refl _
  size := by simp [St.withW, hh]
  arr := fun b g sh h => ⟨g, h, Nat.le_refl _, fun _ => ⟨rfl, by simp [St.withW, csize, hh], rfl⟩⟩
  var := fun b h => ⟨h, rfl⟩
  map := fun b g h => ⟨g, h, Nat.le_refl _, rfl, fun _ => Born.same (by simp only [St.withW]; rw [hh])⟩
  oth := fun b _ h => ⟨h, rfl⟩
  new := fun b h _ => ⟨h, rfl, id⟩
  fr := fun _ _ _ => by simp [St.withW, hh]
  Zm := fun _ h => h
  zn := fun _ h _ => .inl h
  os := h1
  tape := h2
  output := h3
theorem WF.withW {s : St} (hs : WF s) (w : World) (hh : w.heap = s.w.heap) (h1 : w.os = s.w.os) (h2 : w.tape = s.w.tape) (h3 : w.output = s.w.output) : WF (s.withW w) where
  inj := hs.inj
  bnd := fun b hb => by simpa [St.withW, hh] using hs.bnd b hb
  zb := fun k hk => by simpa [St.withW, hh] using hs.zb k hk
  zl := hs.zl
  blk := fun b x hb => RB_keep hs (Evo.withW s w hh h1 h2 h3) hb rfl rfl (by simp [St.withW, hh]) (MapsKept.of_heap (fun _ => rfl) fun _ _ _ _ => by simp [St.withW, hh])

/-! ### a new block -/
def St.add (s : St) (o : Obj) (x : Blk) : St :=
  { H := s.H ++ [x], w := s.w.alloc o, ι := fun b => if b = s.H.length then s.w.heap.size else s.ι b, Z := s.Z, β := fun b => if b = s.H.length then 0 else s.β b }

theorem getElem?_append_old {α : Type} {l : List α} {x : α} {b : Nat} {y : α} (h : l[b]? = some y) : (l ++ [x])[b]? = some y := by
  rw [List.getElem?_append_left (List.getElem?_eq_some_iff.1 h).1]; exact h
theorem getElem?_append_new {α : Type} (l : List α) (x : α) : (l ++ [x])[l.length]? = some x := by simp
theorem getElem?_append_cases {α : Type} {l : List α} {x : α} {b : Nat} {y : α} (h : (l ++ [x])[b]? = some y) : l[b]? = some y ∨ (b = l.length ∧ y = x) := by
  rcases Nat.lt_or_ge b l.length with h1 | h1
  · rw [List.getElem?_append_left h1] at h; exact .inl h
  · rw [List.getElem?_append_right h1] at h
    rcases Nat.eq_or_lt_of_le h1 with h2 | h2
    · rw [← h2] at h; simp at h; exact .inr ⟨h2.symm, h.symm⟩
    · obtain ⟨d, hd⟩ : ∃ d, b - l.length = d + 1 := ⟨b - l.length - 1, by omega⟩
      rw [hd] at h; simp at h

theorem kd_append {H : Heap} {x : Blk} {b : Nat} {k : Kd} (h : kd H b = some k) : kd (H ++ [x]) b = some k := by
  unfold kd at h ⊢
  cases hb : H[b]? with
  | none => rw [hb] at h; simp at h
  | some y => rw [getElem?_append_old hb]; rw [hb] at h; exact h
theorem live_append {H : Heap} {x : Blk} {b : Nat} (hb : b < H.length) : live (H ++ [x]) b ↔ live H b := by
  unfold live
  rw [List.getElem?_append_left hb]
theorem kd_lt {H : Heap} {b : Nat} {k : Kd} (h : kd H b = some k) : b < H.length := by
  unfold kd at h
  rcases Nat.lt_or_ge b H.length with h1 | h1
  · exact h1
  · rw [List.getElem?_eq_none h1] at h; simp at h

theorem heap_alloc_lt (w : World) (o : Obj) {k : Nat} (h : k < w.heap.size) : (w.alloc o).heap[k]? = w.heap[k]? := by
  show (w.heap.push o)[k]? = _
  rw [Array.getElem?_push_lt h, Array.getElem?_eq_getElem h]
theorem heap_alloc_at (w : World) (o : Obj) : (w.alloc o).heap[w.heap.size]? = some o := by
  show (w.heap.push o)[w.heap.size]? = _
  rw [Array.getElem?_push_size]
theorem size_alloc (w : World) (o : Obj) : (w.alloc o).heap.size = w.heap.size + 1 := by simp

theorem Evo.add (s : St) (hs : WF s) (o : Obj) (x : Blk) : Evo s (s.add o x) where
  len := by simp [St.add]
  size := by simp [St.add]
  arr := fun b g sh h => ⟨g, kd_append h, Nat.le_refl _, fun _ => by
    have := kd_lt h
    refine ⟨by simp [St.add, Nat.ne_of_lt this], ?_, by simp [St.add, Nat.ne_of_lt this]⟩
    simp only [csize, St.add]
    rw [heap_alloc_lt _ _ (hs.bnd b this)]⟩
  var := fun b h => ⟨kd_append h, by simp [St.add, Nat.ne_of_lt (kd_lt h)]⟩
  map := fun b g h => ⟨g, kd_append h, Nat.le_refl _, by simp [St.add, Nat.ne_of_lt (kd_lt h)], fun _ => Born.same (heap_alloc_lt _ _ (hs.bnd b (kd_lt h)))⟩
  oth := fun b _ h => ⟨kd_append h, by simp [St.add, Nat.ne_of_lt (kd_lt h)]⟩
  new := fun b hb hlt => by
    simp only [St.add] at hb hlt ⊢
    by_cases e : b = s.H.length
    · rw [if_pos e] at hlt; omega
    · have hb' : b < s.H.length := by simp at hb; omega
      rw [if_neg e]
      exact ⟨hb', rfl, (live_append hb').1⟩
  fr := fun k hk _ => heap_alloc_lt _ _ hk
  Zm := fun _ h => h
  zn := fun _ h _ => .inl h
  os := rfl
  tape := rfl
  output := rfl

theorem WF.add {s : St} (hs : WF s) (o : Obj) (x : Blk) (hx : RB (s.add o x) s.H.length x) : WF (s.add o x) where
  inj := fun b b' hb hb' h => by
    simp only [St.add] at hb hb' h
    simp at hb hb'
    by_cases e : b = s.H.length
    · by_cases e' : b' = s.H.length
      · omega
      · rw [if_pos e, if_neg e'] at h
        have := hs.bnd b' (by omega)
        omega
    · by_cases e' : b' = s.H.length
      · rw [if_neg e, if_pos e'] at h
        have := hs.bnd b (by omega)
        omega
      · rw [if_neg e, if_neg e'] at h
        exact hs.inj b b' (by omega) (by omega) h
  bnd := fun b hb => by
    simp only [St.add] at hb ⊢
    simp at hb
    by_cases e : b = s.H.length
    · rw [if_pos e, size_alloc]; omega
    · rw [if_neg e, size_alloc]
      have := hs.bnd b (by omega)
      omega
  zb := fun k hk => by
    have := hs.zb k hk
    simp only [St.add, size_alloc]
    omega
  zl := fun b hb => by
    have hlt := live_lt hb
    simp only [St.add] at hb hlt ⊢
    simp at hlt
    by_cases e : b = s.H.length
    · rw [if_pos e]
      intro hz
      have := hs.zb _ hz
      omega
    · rw [if_neg e]
      exact hs.zl b ((live_append (by omega)).1 hb)
  blk := fun b y hb => by
    rcases getElem?_append_cases hb with h | ⟨h, h'⟩
    · have hlt := (List.getElem?_eq_some_iff.1 h).1
      refine RB_keep hs (Evo.add s hs o x) h (by simp [St.add, Nat.ne_of_lt hlt]) (by simp [St.add, Nat.ne_of_lt hlt]) (heap_alloc_lt _ _ (hs.bnd b hlt)) ?_
      exact fun m g hm _ es clock he => ⟨es, (heap_alloc_lt _ _ (hs.bnd m (kd_lt hm))).trans he, rfl, fun _ e he => ⟨e, he, rfl⟩⟩
    · subst h; subst h'; exact hx

/-! ### a block rewritten -/
structure Rewrites (s : St) (b : Nat) (x : Blk) (w : World) : Prop where
  lt : b < s.H.length
  live : live s.H b
  size : w.heap.size = s.w.heap.size
  other : ∀ k, k ≠ s.ι b → w.heap[k]? = s.w.heap[k]?
  os : w.os = s.w.os
  tape : w.tape = s.w.tape
  output : w.output = s.w.output

def St.put (s : St) (b : Nat) (x : Blk) (w : World) : St := { s with H := s.H.set b x, w := w }

/-- The kinds fit. -/
def KdFits (s : St) (b : Nat) (x : Blk) (w : World) : Prop :=
  match kd s.H b, x with
  | some (.arr g sh), .arr _ g' sh' _ => g ≤ g' ∧ sh' = sh ∧ (g = g' → csize w (s.ι b) = csize s.w (s.ι b))
  | some .var, .var _ _ => True
  | some (.map g), .map _ g' _ _ => g ≤ g' ∧ (g = g' → ∀ es clock, s.w.heap[s.ι b]? = some (.map es clock) → ∃ es' : Array MapEntry, w.heap[s.ι b]? = some (.map es' clock) ∧ es'.size = es.size ∧
    ∀ (j : Nat) (e : MapEntry), es'[j]? = some e → ∃ e0 : MapEntry, es[j]? = some e0 ∧ e0.born = e.born)
  | some (.oth false), .mit .. | some (.oth false), .fit .. | some (.oth true), .loop .. => True
  | _, _ => False

theorem kd_set_ne {H : Heap} {b c : Nat} (x : Blk) (h : c ≠ b) : kd (H.set b x) c = kd H c := by
  unfold kd; rw [List.getElem?_set_ne (Ne.symm h)]
theorem live_set_ne {H : Heap} {b c : Nat} (x : Blk) (h : c ≠ b) : Go.Ev.live (H.set b x) c ↔ Go.Ev.live H c := by
  unfold Go.Ev.live; rw [List.getElem?_set_ne (Ne.symm h)]
theorem kd_set_eq {H : Heap} {b : Nat} (x : Blk) (h : b < H.length) : kd (H.set b x) b = match x with
    | .arr _ g sh _ => some (.arr g sh) | .var _ _ => some .var | .map _ g _ _ => some (.map g) | .loop .. => some (.oth true) | _ => some (.oth false) := by
  unfold kd; rw [List.getElem?_set_self h]; cases x <;> rfl

theorem Evo.put {s : St} {b : Nat} {x : Blk} {w : World} (hs : WF s) (r : Rewrites s b x w) (hk : KdFits s b x w) : Evo s (s.put b x w) where
  len := by simp [St.put]
  size := by simp [St.put, r.size]
  arr := fun c g sh h => by
    by_cases e : c = b
    · subst e
      unfold KdFits at hk
      rw [h] at hk
      cases x with
      | arr l g' sh' xs =>
        obtain ⟨h1, h2, h3⟩ := hk
        subst h2
        exact ⟨g', kd_set_eq _ r.lt, h1, fun e => ⟨rfl, h3 e, rfl⟩⟩
      | _ => exact hk.elim
    · refine ⟨g, (kd_set_ne x e).trans h, Nat.le_refl _, fun _ => ⟨rfl, ?_, rfl⟩⟩
      have hne : s.ι c ≠ s.ι b := fun e' => e (hs.inj c b (kd_lt h) r.lt e')
      simp only [csize, St.put]
      rw [r.other _ hne]
  var := fun c h => by
    by_cases e : c = b
    · subst e
      unfold KdFits at hk
      rw [h] at hk
      cases x with
      | var l y => exact ⟨kd_set_eq _ r.lt, rfl⟩
      | _ => exact hk.elim
    · exact ⟨(kd_set_ne x e).trans h, rfl⟩
  map := fun c g h => by
    by_cases e : c = b
    · subst e
      unfold KdFits at hk
      rw [h] at hk
      cases x with
      | map l g' ks vs =>
        refine ⟨g', kd_set_eq _ r.lt, hk.1, rfl, fun eg es clock he => ?_⟩
        obtain ⟨es', k1, k2, k3⟩ := hk.2 eg es clock he
        refine ⟨es', clock, k1, fun j q hj => ?_⟩
        have hjl := (Array.getElem?_eq_some_iff.1 hj).1
        obtain ⟨q0, m1, m2⟩ := k3 j _ (Array.getElem?_eq_getElem (by omega))
        rw [hj] at m1
        cases m1
        exact ⟨_, Array.getElem?_eq_getElem (by omega), m2.symm⟩
      | _ => exact hk.elim
    · refine ⟨g, (kd_set_ne x e).trans h, Nat.le_refl _, rfl, fun _ => Born.same (r.other _ fun e' => e (hs.inj c b (kd_lt h) r.lt e'))⟩
  oth := fun c l h => by
    by_cases e : c = b
    · subst e
      unfold KdFits at hk
      rw [h] at hk
      cases l <;> cases x <;> first | exact hk.elim | exact ⟨kd_set_eq _ r.lt, rfl⟩
    · exact ⟨(kd_set_ne x e).trans h, rfl⟩
  new := fun c hc _ => by
    have hc' : c < s.H.length := by simpa [St.put] using hc
    refine ⟨hc', rfl, fun hl => ?_⟩
    by_cases e : c = b
    · subst e; exact r.live
    · exact (live_set_ne x e).1 hl
  fr := fun k hk hne => r.other k (fun e => hne b r.live e.symm)
  Zm := fun _ h => h
  zn := fun _ h _ => .inl h
  os := r.os
  tape := r.tape
  output := r.output

theorem WF.put {s : St} {b : Nat} {x : Blk} {w : World} (hs : WF s) (r : Rewrites s b x w) (hk : KdFits s b x w) (hx : RB (s.put b x w) b x) : WF (s.put b x w) where
  inj := fun c c' hc hc' h => by
    simp only [St.put, List.length_set] at hc hc' h
    exact hs.inj c c' hc hc' h
  bnd := fun c hc => by
    simp only [St.put, List.length_set] at hc ⊢
    rw [r.size]; exact hs.bnd c hc
  zb := fun k hk => by
    simp only [St.put]
    rw [r.size]; exact hs.zb k hk
  zl := fun c hc => by
    by_cases e : c = b
    · subst e; exact hs.zl c r.live
    · exact hs.zl c ((live_set_ne x e).1 hc)
  blk := fun c y hc => by
    by_cases e : c = b
    · subst e
      simp only [St.put] at hc
      rw [List.getElem?_set_self r.lt] at hc
      cases hc
      exact hx
    · simp only [St.put] at hc
      rw [List.getElem?_set_ne (Ne.symm e)] at hc
      have hlt := (List.getElem?_eq_some_iff.1 hc).1
      have hne : s.ι c ≠ s.ι b := fun e' => e (hs.inj c b hlt r.lt e')
      refine RB_keep hs (Evo.put hs r hk) hc rfl rfl (r.other _ hne) ?_
      intro m g h1 h2 es clock h3
      by_cases e2 : m = b
      · subst e2
        unfold KdFits at hk
        rw [h1] at hk
        cases x with
        | map l g' ks vs =>
          simp only [St.put] at h2
          rw [kd_set_eq _ r.lt] at h2
          simp only [Option.some.injEq, Kd.map.injEq] at h2
          exact hk.2 h2.symm es clock h3
        | _ => exact hk.elim
      · have hne2 : s.ι m ≠ s.ι b := fun e' => e2 (hs.inj m b (kd_lt h1) r.lt e')
        exact ⟨es, (r.other _ hne2).trans h3, rfl, fun _ e he => ⟨e, he, rfl⟩⟩

/-! ### a row that has grown: where it was, or elsewhere -/
def St.shift (s : St) (b : Nat) (x : Blk) (w : World) (k o : Nat) : St :=
  { H := s.H.set b x, w := w, ι := fun c => if c = b then k else s.ι c, Z := s.Z, β := fun c => if c = b then o else s.β c }

structure Shifts (s : St) (b : Nat) (w : World) (k : Nat) : Prop where
  live : live s.H b
  arr : ∃ g sh, kd s.H b = some (.arr g sh)
  size : s.w.heap.size ≤ w.heap.size
  other : ∀ j, j < s.w.heap.size → j ≠ s.ι b → w.heap[j]? = s.w.heap[j]?
  place : k = s.ι b ∨ s.w.heap.size ≤ k
  lt : k < w.heap.size
  os : w.os = s.w.os
  tape : w.tape = s.w.tape
  output : w.output = s.w.output

theorem Evo.shift {s : St} {b g sh : Nat} {xs : List PV} {w : World} {k o : Nat} (hs : WF s) (r : Shifts s b w k) (hk : kd s.H b = some (.arr g sh)) : Evo s (s.shift b (.arr true (g + 1) sh xs) w k o) where
  len := by simp [St.shift]
  size := r.size
  arr := fun c g1 sh1 h => by
    by_cases e : c = b
    · subst e
      rw [hk] at h
      simp only [Option.some.injEq, Kd.arr.injEq] at h
      obtain ⟨rfl, rfl⟩ := h
      exact ⟨g + 1, kd_set_eq _ (live_lt r.live), Nat.le_succ _, fun e => by omega⟩
    · refine ⟨g1, (kd_set_ne _ e).trans h, Nat.le_refl _, fun _ => ⟨by simp [St.shift, e], ?_, by simp [St.shift, e]⟩⟩
      have hne : s.ι c ≠ s.ι b := fun e' => e (hs.inj c b (kd_lt h) (live_lt r.live) e')
      simp only [csize, St.shift]
      rw [r.other _ (hs.bnd c (kd_lt h)) hne]
  var := fun c h => by
    have e : c ≠ b := by rintro rfl; rw [hk] at h; cases h
    exact ⟨(kd_set_ne _ e).trans h, by simp [St.shift, e]⟩
  map := fun c g h => by
    have e : c ≠ b := by rintro rfl; rw [hk] at h; cases h
    exact ⟨g, (kd_set_ne _ e).trans h, Nat.le_refl _, by simp [St.shift, e], fun _ => Born.same (r.other _ (hs.bnd c (kd_lt h)) fun e' => e (hs.inj c b (kd_lt h) (live_lt r.live) e'))⟩
  oth := fun c l h => by
    have e : c ≠ b := by rintro rfl; rw [hk] at h; cases h
    exact ⟨(kd_set_ne _ e).trans h, by simp [St.shift, e]⟩
  new := fun c hc hlt => by
    have hc' : c < s.H.length := by simpa [St.shift] using hc
    by_cases e : c = b
    · subst e
      simp only [St.shift, if_true] at hlt ⊢
      rcases r.place with h | h
      · exact ⟨hc', h, fun _ => r.live⟩
      · omega
    · simp only [St.shift, if_neg e]
      exact ⟨hc', trivial, fun hl => (live_set_ne _ e).1 hl⟩
  fr := fun j hj hne => r.other j hj (fun e => hne b r.live e.symm)
  Zm := fun _ h => h
  zn := fun _ h _ => .inl h
  os := r.os
  tape := r.tape
  output := r.output

theorem WF.shift {s : St} {b g sh : Nat} {xs : List PV} {w : World} {k o : Nat} (hs : WF s) (r : Shifts s b w k) (hk : kd s.H b = some (.arr g sh))
    (hx : RB (s.shift b (.arr true (g + 1) sh xs) w k o) b (.arr true (g + 1) sh xs)) : WF (s.shift b (.arr true (g + 1) sh xs) w k o) where
  inj := fun c c' hc hc' h => by
    simp only [St.shift, List.length_set] at hc hc' h
    by_cases e : c = b
    · by_cases e' : c' = b
      · rw [e, e']
      · rw [if_pos e, if_neg e'] at h
        rcases r.place with hp | hp
        · rw [hp] at h; exact absurd (hs.inj b c' (live_lt r.live) hc' h).symm e'
        · have := hs.bnd c' hc'; omega
    · by_cases e' : c' = b
      · rw [if_neg e, if_pos e'] at h
        rcases r.place with hp | hp
        · rw [hp] at h; exact absurd (hs.inj c b hc (live_lt r.live) h) e
        · have := hs.bnd c hc; omega
      · rw [if_neg e, if_neg e'] at h
        exact hs.inj c c' hc hc' h
  bnd := fun c hc => by
    simp only [St.shift, List.length_set] at hc ⊢
    split
    · exact r.lt
    · exact Nat.lt_of_lt_of_le (hs.bnd c hc) r.size
  zb := fun k hk => Nat.lt_of_lt_of_le (hs.zb k hk) r.size
  zl := fun c hc => by
    by_cases e : c = b
    · subst e
      simp only [St.shift, if_true]
      rcases r.place with hp | hp
      · rw [hp]; exact hs.zl c r.live
      · intro hz; have := hs.zb _ hz; omega
    · simp only [St.shift, if_neg e]
      exact hs.zl c ((live_set_ne _ e).1 hc)
  blk := fun c y hc => by
    by_cases e : c = b
    · subst e
      simp only [St.shift] at hc
      rw [List.getElem?_set_self (live_lt r.live)] at hc
      cases hc
      exact hx
    · simp only [St.shift] at hc
      rw [List.getElem?_set_ne (Ne.symm e)] at hc
      have hlt := (List.getElem?_eq_some_iff.1 hc).1
      have hne : ∀ m, m < s.H.length → m ≠ b → s.ι m ≠ s.ι b := fun m hm e0 e' => e0 (hs.inj m b hm (live_lt r.live) e')
      refine RB_keep hs (Evo.shift hs r hk) hc (by simp [St.shift, e]) (by simp [St.shift, e]) (r.other _ (hs.bnd c hlt) (hne c hlt e)) ?_
      intro m g h1 h2 es clock h3
      have e2 : m ≠ b := by rintro rfl; rw [hk] at h1; cases h1
      exact ⟨es, (r.other _ (hs.bnd m (kd_lt h1)) (hne m (kd_lt h1) e2)).trans h3, rfl, fun _ e he => ⟨e, he, rfl⟩⟩

end Go.Ev
end
section
/- SMALL LAWS on what values stand for: cells, parts, tuples, constants. -/
namespace Go.Ev

theorem RPs_length {w : World} {Z : Nat → Prop} : ∀ {xs : List PV} {cs : List Value}, RPs w Z xs cs → cs.length = xs.length
  | [], cs, h => by simp only [RPs] at h; simp [h]
  | x :: xs, cs, h => by
    simp only [RPs] at h
    obtain ⟨v, r, e, _, h2⟩ := h
    simp [e, RPs_length h2]
theorem RAs_length {s : St} : ∀ {xs : List AV} {cs : List Value}, RAs s xs cs → cs.length = xs.length
  | [], cs, h => by simp only [RAs] at h; simp [h]
  | x :: xs, cs, h => by
    simp only [RAs] at h
    obtain ⟨v, r, e, _, h2⟩ := h
    simp [e, RAs_length h2]

theorem RPs_iff {w : World} {Z : Nat → Prop} : ∀ {xs : List PV} {cs : List Value}, RPs w Z xs cs ↔ cs.length = xs.length ∧ ∀ (i : Nat) (x : PV) (c : Value), xs[i]? = some x → cs[i]? = some c → RP w Z x c
  | [], cs => by
    simp only [RPs]
    constructor
    · rintro rfl; simp
    · rintro ⟨h, _⟩; simpa using h
  | x :: xs, cs => by
    simp only [RPs]
    constructor
    · rintro ⟨v, r, rfl, h1, h2⟩
      obtain ⟨h3, h4⟩ := RPs_iff.1 h2
      refine ⟨by simp [h3], fun i y c hy hc => ?_⟩
      cases i with
      | zero => simp at hy hc; subst hy; subst hc; exact h1
      | succ i => simp at hy hc; exact h4 i y c hy hc
    · rintro ⟨h, h'⟩
      cases cs with
      | nil => simp at h
      | cons v r => exact ⟨v, r, rfl, h' 0 x v (by simp) (by simp), RPs_iff.2 ⟨by simpa using h, fun i y c hy hc => h' (i + 1) y c (by simpa using hy) (by simpa using hc)⟩⟩
theorem RAs_iff {s : St} : ∀ {xs : List AV} {cs : List Value}, RAs s xs cs ↔ cs.length = xs.length ∧ ∀ (i : Nat) (x : AV) (c : Value), xs[i]? = some x → cs[i]? = some c → RA s x c
  | [], cs => by
    simp only [RAs]
    constructor
    · rintro rfl; simp
    · rintro ⟨h, _⟩; simpa using h
  | x :: xs, cs => by
    simp only [RAs]
    constructor
    · rintro ⟨v, r, rfl, h1, h2⟩
      obtain ⟨h3, h4⟩ := RAs_iff.1 h2
      refine ⟨by simp [h3], fun i y c hy hc => ?_⟩
      cases i with
      | zero => simp at hy hc; subst hy; subst hc; exact h1
      | succ i => simp at hy hc; exact h4 i y c hy hc
    · rintro ⟨h, h'⟩
      cases cs with
      | nil => simp at h
      | cons v r => exact ⟨v, r, rfl, h' 0 x v (by simp) (by simp), RAs_iff.2 ⟨by simpa using h, fun i y c hy hc => h' (i + 1) y c (by simpa using hy) (by simpa using hc)⟩⟩

theorem RPs_get {w : World} {Z : Nat → Prop} {xs : List PV} {cs : List Value} (h : RPs w Z xs cs) {i : Nat} {x : PV} (hx : xs[i]? = some x) : ∃ c, cs[i]? = some c ∧ RP w Z x c := by
  obtain ⟨h1, h2⟩ := RPs_iff.1 h
  have hlt := (List.getElem?_eq_some_iff.1 hx).1
  exact ⟨cs[i], by simp [h1, hlt], h2 i x _ hx (by simp [h1, hlt])⟩
theorem RAs_get {s : St} {xs : List AV} {cs : List Value} (h : RAs s xs cs) {i : Nat} {x : AV} (hx : xs[i]? = some x) : ∃ c, cs[i]? = some c ∧ RA s x c := by
  obtain ⟨h1, h2⟩ := RAs_iff.1 h
  have hlt := (List.getElem?_eq_some_iff.1 hx).1
  exact ⟨cs[i], by simp [h1, hlt], h2 i x _ hx (by simp [h1, hlt])⟩

theorem RPs_drop {w : World} {Z : Nat → Prop} {xs : List PV} {cs : List Value} (h : RPs w Z xs cs) (n : Nat) : RPs w Z (xs.drop n) (cs.drop n) := by
  obtain ⟨h1, h2⟩ := RPs_iff.1 h
  exact RPs_iff.2 ⟨by simp [h1], fun i x c hx hc => h2 (n + i) x c (by simpa using hx) (by simpa using hc)⟩
theorem RPs_take {w : World} {Z : Nat → Prop} {xs : List PV} {cs : List Value} (h : RPs w Z xs cs) (n : Nat) : RPs w Z (xs.take n) (cs.take n) := by
  obtain ⟨h1, h2⟩ := RPs_iff.1 h
  refine RPs_iff.2 ⟨by simp [h1], fun i x c hx hc => ?_⟩
  rw [List.getElem?_take] at hx hc
  split at hx
  · rename_i hi; rw [if_pos hi] at hc; exact h2 i x c hx hc
  · cases hx
theorem RAs_drop {s : St} {xs : List AV} {cs : List Value} (h : RAs s xs cs) (n : Nat) : RAs s (xs.drop n) (cs.drop n) := by
  obtain ⟨h1, h2⟩ := RAs_iff.1 h
  exact RAs_iff.2 ⟨by simp [h1], fun i x c hx hc => h2 (n + i) x c (by simpa using hx) (by simpa using hc)⟩
theorem RAs_take {s : St} {xs : List AV} {cs : List Value} (h : RAs s xs cs) (n : Nat) : RAs s (xs.take n) (cs.take n) := by
  obtain ⟨h1, h2⟩ := RAs_iff.1 h
  refine RAs_iff.2 ⟨by simp [h1], fun i x c hx hc => ?_⟩
  rw [List.getElem?_take] at hx hc
  split at hx
  · rename_i hi; rw [if_pos hi] at hc; exact h2 i x c hx hc
  · cases hx
theorem RAs_set {s : St} {xs : List AV} {cs : List Value} (h : RAs s xs cs) {i : Nat} {x : AV} {c : Value} (hx : RA s x c) : RAs s (xs.set i x) (cs.set i c) := by
  obtain ⟨h1, h2⟩ := RAs_iff.1 h
  refine RAs_iff.2 ⟨by simp [h1], fun j y d hy hd => ?_⟩
  rw [List.getElem?_set] at hy hd
  split at hy
  · rename_i hj
    rw [if_pos hj] at hd
    split at hy
    · rename_i hlt
      rw [if_pos (by omega)] at hd
      simp at hy hd; subst hy; subst hd; exact hx
    · cases hy
  · rename_i hj
    rw [if_neg hj] at hd
    exact h2 j y d hy hd
theorem RAs_append {s : St} {xs ys : List AV} {cs ds : List Value} (h : RAs s xs cs) (k : RAs s ys ds) : RAs s (xs ++ ys) (cs ++ ds) := by
  induction xs generalizing cs with
  | nil => simp only [RAs] at h; subst h; exact k
  | cons x xs ih =>
    simp only [RAs, List.cons_append] at h ⊢
    obtain ⟨v, r, rfl, h1, h2⟩ := h
    exact ⟨v, r ++ ds, rfl, h1, ih h2⟩
theorem RPs_append {w : World} {Z : Nat → Prop} {xs ys : List PV} {cs ds : List Value} (h : RPs w Z xs cs) (k : RPs w Z ys ds) : RPs w Z (xs ++ ys) (cs ++ ds) := by
  induction xs generalizing cs with
  | nil => simp only [RPs] at h; subst h; exact k
  | cons x xs ih =>
    simp only [RPs, List.cons_append] at h ⊢
    obtain ⟨v, r, rfl, h1, h2⟩ := h
    exact ⟨v, r ++ ds, rfl, h1, ih h2⟩

theorem RAs_map_p {s : St} : ∀ {xs : List PV} {cs : List Value}, RAs s (xs.map AV.p) cs ↔ RPs s.w s.Z xs cs
  | [], cs => by simp only [RAs, RPs, List.map_nil]
  | x :: xs, cs => by
    simp only [RAs, RPs, List.map_cons, RA]
    constructor
    · rintro ⟨v, r, e, h1, h2⟩; exact ⟨v, r, e, h1, RAs_map_p.1 h2⟩
    · rintro ⟨v, r, e, h1, h2⟩; exact ⟨v, r, e, h1, RAs_map_p.2 h2⟩

theorem allP_some : ∀ {xs : List AV} {ys : List PV}, allP xs = some ys → xs = ys.map AV.p
  | [], ys, h => by simp [allP] at h; simp [← h]
  | x :: xs, ys, h => by
    cases x with
    | p y =>
      simp only [allP, Option.map_eq_some_iff] at h
      obtain ⟨zs, h1, rfl⟩ := h
      simp [allP_some h1]
    | _ => simp [allP] at h
theorem RA_mkAgg {s : St} {xs : List AV} {v : Value} (h : RA s (.agg xs) v) : RA s (mkAgg xs) v := by
  unfold mkAgg
  cases hp : allP xs with
  | none => exact h
  | some ys =>
    have e := allP_some hp
    subst e
    simp only [RA, RP] at h ⊢
    obtain ⟨h1, cs, h2, h3, h4⟩ := h
    exact ⟨by simpa using h1, cs, h2, RAs_map_p.1 h3, h4⟩
theorem RA_mkTup {s : St} {xs : List AV} {v : Value} (h : RA s (.tup xs) v) : RA s (mkTup xs) v := by
  unfold mkTup
  cases hp : allP xs with
  | none => exact h
  | some ys =>
    have e := allP_some hp
    subst e
    simp only [RA, RP] at h ⊢
    obtain ⟨cs, h2, h3⟩ := h
    exact ⟨cs, h2, RAs_map_p.1 h3⟩
theorem RA_mkFn {s : St} {f : FuncId} {xs : List AV} {v : Value} (h : RA s (.fn f xs) v) : RA s (mkFn f xs) v := by
  unfold mkFn
  cases hp : allP xs with
  | none => exact h
  | some ys =>
    have e := allP_some hp
    subst e
    simp only [RA, RP] at h ⊢
    obtain ⟨cs, h2, h3⟩ := h
    exact ⟨cs, h2, RAs_map_p.1 h3⟩

theorem RA_ofLeaf (s : St) (v : Value) : RA s (ofLeaf v) v := by
  unfold ofLeaf
  split <;> first | (simp only [RA, RP]; done) | (simp only [RA, RP]; try rfl)
  · rename_i f
    exact ⟨[], rfl, by simp [RPs]⟩
theorem RA_ofVal (s : St) (v : Value) : RA s (ofVal v) v := by
  unfold ofVal
  split
  · simp [RA]
  · exact RA_ofLeaf s _
theorem RAs_ofLeaf (s : St) : ∀ cs : List Value, RAs s (cs.map ofLeaf) cs
  | [] => by simp [RAs]
  | c :: cs => by simp only [RAs, List.map_cons]; exact ⟨c, cs, rfl, RA_ofLeaf s c, RAs_ofLeaf s cs⟩
theorem RA_zero {s : St} {v : Value} {a : AV} (h : zeroAV v = some a) : RA s a v := by
  unfold zeroAV at h
  split at h
  · rename_i cs
    split at h
    · rename_i hc
      simp only [Option.some.injEq] at h
      subst h
      refine RA_mkAgg ?_
      simp only [RA]
      refine ⟨fun e => hc.1 ?_, cs.toList, rfl, RAs_ofLeaf s _, fun c hm => ?_⟩
      · have := congrArg List.length e; simpa using this
      · have := hc.2; rw [Array.all_eq_true_iff_forall_mem] at this; exact this c (by simpa using hm)
    · cases h
  · simp only [Option.some.injEq] at h; subst h; exact RA_ofLeaf s _

theorem oper_ok {s : St} {env : Env} {a : Act} (h : REnv s env a.tmps) (o : Operand) : RA s (oper env o) (a.eval o) := by
  cases o with
  | tmp t => exact h t
  | const v => exact RA_ofVal s v
  | func f =>
    simp only [oper, Act.eval, RA, RP]
    exact ⟨[], rfl, by simp [RPs]⟩
  | global g => simp [oper, RA]
theorem opers_ok {s : St} {env : Env} {a : Act} (h : REnv s env a.tmps) : ∀ l : List Operand, RAs s (l.map (oper env)) (l.map a.eval)
  | [] => by simp [RAs]
  | o :: l => by simp only [RAs, List.map_cons]; exact ⟨_, _, rfl, oper_ok h o, opers_ok h l⟩

theorem put_ok {s : St} {env : Env} {a : Act} (h : REnv s env a.tmps) {d : Option Tmp} {x : AV} {v : Value} (hx : RA s x v) (hd : ∀ t, d = some t → t < a.tmps.size) : REnv s (env.put d x) (a.put d v).tmps := by
  intro t
  cases d with
  | none => exact h t
  | some u =>
    simp only [Env.put, Env.upd, Act.put]
    have hu := hd u rfl
    by_cases e : t = u
    · subst e
      rw [if_pos rfl]
      simpa [Array.getD, hu, Array.getElem_setIfInBounds] using hx
    · rw [if_neg e]
      have := h t
      simp only [Array.getD_eq_getD_getElem?] at this ⊢
      rw [Array.getElem?_setIfInBounds_ne (Ne.symm e)]
      exact this

/-! cells -/
theorem leaf_vshape {w : World} {Z : Nat → Prop} {x : PV} {v : Value} (h : RP w Z x v) (hx : ∀ xs, x ≠ .agg xs) : vshape v = 0 ∧ v.cells = #[v] := by
  cases x <;> simp only [RP] at h
  case agg xs => exact absurd rfl (hx xs)
  all_goals first
    | (subst h; exact ⟨rfl, rfl⟩)
    | (obtain ⟨cs, rfl, _⟩ := h; exact ⟨rfl, rfl⟩)
    | (obtain ⟨a, len, cap, rfl, _⟩ := h; exact ⟨rfl, rfl⟩)
    | (obtain ⟨a, b, rfl, _⟩ := h; exact ⟨rfl, rfl⟩)
theorem RP_shape {w : World} {Z : Nat → Prop} {x : PV} {v : Value} (h : RP w Z x v) : vshape v = x.shape := by
  by_cases hx : ∃ xs, x = .agg xs
  · obtain ⟨xs, rfl⟩ := hx
    simp only [RP] at h
    obtain ⟨_, cs, rfl, h1, _⟩ := h
    simpa [vshape, PV.shape] using RPs_length h1
  · have hx' : ∀ xs, x ≠ .agg xs := fun xs e => hx ⟨xs, e⟩
    rw [(leaf_vshape h hx').1]
    cases x <;> first | rfl | exact absurd rfl (hx' _)
theorem RP_cells {w : World} {Z : Nat → Prop} {x : PV} {v : Value} (h : RP w Z x v) : RPs w Z x.cells v.cells.toList := by
  by_cases hx : ∃ xs, x = .agg xs
  · obtain ⟨xs, rfl⟩ := hx
    simp only [RP] at h
    obtain ⟨_, cs, rfl, h1, _⟩ := h
    simpa [Value.cells, PV.cells] using h1
  · have hx' : ∀ xs, x ≠ .agg xs := fun xs e => hx ⟨xs, e⟩
    rw [(leaf_vshape h hx').2]
    have e : x.cells = [x] := by cases x <;> first | rfl | exact absurd rfl (hx' _)
    rw [e]
    simp only [RPs]
    exact ⟨v, [], rfl, h, rfl⟩
theorem leafA {s : St} {x : AV} {v : Value} (h : RA s x v) (hu : x ≠ .undef) (hx : ∀ xs, x ≠ .agg xs) (hp : ∀ xs, x ≠ .p (.agg xs)) : vshape v = 0 ∧ v.cells = #[v] ∧ x.cells = [x] ∧ x.shape = 0 := by
  cases x with
  | p y =>
    simp only [RA] at h
    have := leaf_vshape h (fun xs e => hp xs (by rw [e]))
    refine ⟨this.1, this.2, ?_, ?_⟩ <;> (cases y <;> first | rfl | exact absurd rfl (hp _))
  | undef => exact absurd rfl hu
  | agg xs => exact absurd rfl (hx xs)
  | nsl => simp only [RA] at h; subst h; exact ⟨rfl, rfl, rfl, rfl⟩
  | tup xs => simp only [RA] at h; obtain ⟨cs, rfl, _⟩ := h; exact ⟨rfl, rfl, rfl, rfl⟩
  | ref b g off len ex => simp only [RA] at h; obtain ⟨a, cap, g0, sh, rfl, _⟩ := h; exact ⟨rfl, rfl, rfl, rfl⟩
  | vptr b off => simp only [RA] at h; obtain ⟨_, rfl⟩ := h; exact ⟨rfl, rfl, rfl, rfl⟩
  | eptr b g i off => simp only [RA] at h; obtain ⟨a, g0, sh, rfl, _⟩ := h; exact ⟨rfl, rfl, rfl, rfl⟩
  | fn f caps => simp only [RA] at h; obtain ⟨cs, rfl, _⟩ := h; exact ⟨rfl, rfl, rfl, rfl⟩
  | yld b => simp only [RA] at h; obtain ⟨_, rfl⟩ := h; exact ⟨rfl, rfl, rfl, rfl⟩
  | map b => simp only [RA] at h; obtain ⟨_, rfl⟩ := h; exact ⟨rfl, rfl, rfl, rfl⟩
  | it b => simp only [RA] at h; obtain ⟨_, rfl⟩ := h; exact ⟨rfl, rfl, rfl, rfl⟩
  | stm b g j => simp only [RA] at h; obtain ⟨g0, n, _, _, rfl, _⟩ := h; exact ⟨rfl, rfl, rfl, rfl⟩
theorem RA_shape {s : St} {x : AV} {v : Value} (h : RA s x v) (hu : x ≠ .undef) : vshape v = x.shape := by
  by_cases hx : ∃ xs, x = .agg xs
  · obtain ⟨xs, rfl⟩ := hx
    simp only [RA] at h
    obtain ⟨_, cs, rfl, h1, _⟩ := h
    simpa [vshape, AV.shape] using RAs_length h1
  · by_cases hp : ∃ xs, x = .p (.agg xs)
    · obtain ⟨xs, rfl⟩ := hp
      simp only [RA] at h
      exact RP_shape h
    · have := leafA h hu (fun xs e => hx ⟨xs, e⟩) (fun xs e => hp ⟨xs, e⟩)
      rw [this.1, this.2.2.2]
theorem RA_cells {s : St} {x : AV} {v : Value} (h : RA s x v) (hu : x ≠ .undef) : RAs s x.cells v.cells.toList := by
  by_cases hx : ∃ xs, x = .agg xs
  · obtain ⟨xs, rfl⟩ := hx
    simp only [RA] at h
    obtain ⟨_, cs, rfl, h1, _⟩ := h
    simpa [Value.cells, AV.cells] using h1
  · by_cases hp : ∃ xs, x = .p (.agg xs)
    · obtain ⟨xs, rfl⟩ := hp
      simp only [RA] at h
      exact RAs_map_p.2 (by simpa [PV.cells] using RP_cells h)
    · have := leafA h hu (fun xs e => hx ⟨xs, e⟩) (fun xs e => hp ⟨xs, e⟩)
      rw [this.2.1, this.2.2.1]
      simp only [RAs]
      exact ⟨v, [], rfl, h, rfl⟩
/-- A value that may be stored: its cells are one cell each. -/
theorem stor_oneCell {s : St} {x : AV} {v : Value} (h : RA s x v) (hs : x.stor = true) : ∀ c ∈ v.cells.toList, c.oneCell' = true := by
  have hu : x ≠ .undef := by rintro rfl; simp [AV.stor] at hs
  by_cases hx : ∃ xs, x = .agg xs
  · obtain ⟨xs, rfl⟩ := hx
    simp only [RA] at h
    obtain ⟨_, cs, rfl, _, h1⟩ := h
    simpa [Value.cells] using h1
  · by_cases hp : ∃ xs, x = .p (.agg xs)
    · obtain ⟨xs, rfl⟩ := hp
      simp only [RA, RP] at h
      obtain ⟨_, cs, rfl, _, h1⟩ := h
      simpa [Value.cells] using h1
    · have := leafA h hu (fun xs e => hx ⟨xs, e⟩) (fun xs e => hp ⟨xs, e⟩)
      rw [this.2.1]
      intro c hc
      simp at hc
      subst hc
      have h0 := this.1
      cases c with
      | agg cs =>
        have h3 := this.2.1
        simp [Value.cells] at h3
        have h4 := congrArg (fun a : Array Value => SizeOf.sizeOf a) h3
        simp at h4
        omega
      | tuple cs =>
        cases x with
        | tup xs => simp [AV.stor] at hs
        | p y => cases y <;> simp_all [RA, RP, AV.stor, PV.stor]
        | _ => simp_all [RA, AV.stor]
      | _ => rfl
theorem stride_pos (sh : Nat) : 0 < stride sh := by unfold stride; split <;> omega
theorem cells_size {v : Value} {sh : Nat} (h : vshape v = sh) (hv : ∀ cs, v = .agg cs → cs.size ≠ 0) : v.cells.size = stride sh := by
  cases v with
  | agg cs =>
    simp only [vshape] at h
    have := hv cs rfl
    simp [Value.cells, stride, ← h, this]
  | _ => simp only [vshape] at h; subst h; rfl
theorem RP_size {w : World} {Z : Nat → Prop} {x : PV} {v : Value} (h : RP w Z x v) : v.cells.size = stride x.shape := by
  refine cells_size (RP_shape h) (fun cs e => ?_)
  subst e
  cases x <;> simp only [RP] at h
  case agg xs =>
    obtain ⟨h1, cs', e, h2, _⟩ := h
    have := RPs_length h2
    simp only [Value.agg.injEq] at e
    rw [e]
    intro h0
    simp at h0
    rw [h0] at this
    simp at this
    exact h1 (by simpa using this.symm)
  all_goals first
    | (cases h; done)
    | (obtain ⟨_, h, _⟩ := h; cases h; done)
    | (obtain ⟨_, _, _, h, _⟩ := h; cases h; done)
    | (obtain ⟨_, _, h, _⟩ := h; cases h; done)
theorem RA_size {s : St} {x : AV} {v : Value} (h : RA s x v) (hu : x ≠ .undef) : v.cells.size = stride x.shape := by
  by_cases hx : ∃ xs, x = .agg xs
  · obtain ⟨xs, rfl⟩ := hx
    simp only [RA] at h
    obtain ⟨h1, cs, rfl, h2, _⟩ := h
    have := RAs_length h2
    have h0 : xs.length ≠ 0 := fun e => h1 (by simpa using e)
    simp [Value.cells, AV.shape, stride, h0, this]
  · by_cases hp : ∃ xs, x = .p (.agg xs)
    · obtain ⟨xs, rfl⟩ := hp
      simp only [RA] at h
      exact RP_size h
    · have := leafA h hu (fun xs e => hx ⟨xs, e⟩) (fun xs e => hp ⟨xs, e⟩)
      rw [this.2.1, this.2.2.2]; rfl

/-! what lies in memory, place by place -/
theorem RM_iff {w : World} {Z : Nat → Prop} {sh : Nat} : ∀ {xs : List PV} {b o : Nat}, RM w Z sh xs b o ↔
    ∀ (i : Nat) (x : PV), xs[i]? = some x → x.stor = true ∧ ∃ u, RP w Z x u ∧ vshape u = sh ∧ cellsAt w b (o + i * stride sh) u.cells.toList
  | [], b, o => by simp [RM]
  | x :: xs, b, o => by
    simp only [RM]
    constructor
    · rintro ⟨h1, h2⟩ i y hy
      cases i with
      | zero => simp at hy; subst hy; simpa using h1
      | succ i =>
        simp at hy
        obtain ⟨ht, u, h3, h4, h5⟩ := RM_iff.1 h2 i y hy
        refine ⟨ht, u, h3, h4, ?_⟩
        have : o + (i + 1) * stride sh = o + stride sh + i * stride sh := by rw [Nat.succ_mul]; omega
        rw [this]; exact h5
    · intro h
      refine ⟨by simpa using h 0 x (by simp), RM_iff.2 fun i y hy => ?_⟩
      obtain ⟨ht, u, h3, h4, h5⟩ := h (i + 1) y (by simpa using hy)
      refine ⟨ht, u, h3, h4, ?_⟩
      have : o + (i + 1) * stride sh = o + stride sh + i * stride sh := by rw [Nat.succ_mul]; omega
      rw [this] at h5; exact h5

end Go.Ev
end
section
/- MEMORY OPERATIONS OF THE MODEL against the evaluator's: loads, stores, new variables, addresses. -/
namespace Go.Ev
variable {P : Program}

/-- An operation that answers a value. -/
def Sim (P : Program) (s : St) (m : Sem Value) (av : AV) (H' : Heap) : Prop := ∃ v s', m.run P s.w = .ok v s'.w ∧ s'.H = H' ∧ Evo s s' ∧ WF s' ∧ RA s' av v
/-- One that answers nothing. -/
def SimU (P : Program) (s : St) (m : Sem Unit) (H' : Heap) : Prop := ∃ s', m.run P s.w = .ok () s'.w ∧ s'.H = H' ∧ Evo s s' ∧ WF s'

theorem Sim.same {s : St} (hs : WF s) {m : Sem Value} {av : AV} {v : Value} (h : m.run P s.w = .ok v s.w) (hv : RA s av v) : Sim P s m av s.H :=
  ⟨v, s, h, rfl, Evo.refl s, hs, hv⟩

/-! types -/
theorem run_underlying' {t : TypeId} {d : TypeDesc} (h : P.underlying t = some d) (w : World) : (underlying t).run P w = .ok d w := by
  simp [underlying, h]
theorem run_sizeOf {t : TypeId} {i : TypeInfo} (h : P.info? t = some i) (w : World) : (sizeOf t).run P w = .ok i.size w := by
  simp [sizeOf, typeInfo, h]
theorem run_zeroValue {t : TypeId} {v : Value} (h : (P.info? t).bind (·.zero) = some v) (w : World) : (zeroValue t).run P w = .ok v w := by
  cases hi : P.info? t with
  | none => rw [hi] at h; cases h
  | some i =>
    rw [hi] at h
    simp only [Option.bind_some] at h
    simp [zeroValue, typeInfo, hi, h]
theorem tsh_size {t : TypeId} {sh : Nat} (h : tsh P t = some sh) (w : World) : (sizeOf t).run P w = .ok (stride sh) w := by
  unfold tsh at h
  split at h
  · rename_i i _ hi
    split at h
    · cases h
    · rename_i h0
      cases h
      rw [run_sizeOf hi]; simp [stride, h0]
  · rename_i i _ hi
    split at h
    · cases h
    · rename_i h0
      cases h
      rw [run_sizeOf hi]; simp [stride, h0]
  · rename_i i _ _ _ hi
    split at h
    · rename_i h1
      cases h
      rw [run_sizeOf hi]; simp [stride, h1]
    · cases h
  · cases h
theorem tsh_tsz {t : TypeId} {sh : Nat} (h : tsh P t = some sh) : tsz P t = some (stride sh) := by
  have h1 := tsh_size (P := P) h default
  unfold tsz
  cases hi : P.info? t with
  | none =>
    unfold tsh at h; rw [hi] at h
    split at h <;> simp_all
  | some i =>
    rw [run_sizeOf hi] at h1
    simp only [Result.ok.injEq] at h1
    simp [h1.1]
theorem tsh_agg {t : TypeId} {sh : Nat} (h : tsh P t = some sh) (w : World) : (isAgg t).run P w = .ok (decide (sh ≠ 0)) w := by
  unfold tsh at h
  split at h
  · rename_i i hu _
    split at h
    · cases h
    · rename_i h0
      cases h
      simp [isAgg, run_underlying' hu, h0]
  · rename_i i hu _
    split at h
    · cases h
    · rename_i h0
      cases h
      simp [isAgg, run_underlying' hu, h0]
  · rename_i d i h1 h2 hu _
    split at h
    · cases h
      simp only [isAgg, Sem.run_bind, run_underlying' hu, Result.andThen_ok]
      cases d with
      | struct f => exact absurd rfl (h1 f)
      | array n e => exact absurd rfl (h2 n e)
      | _ => rfl
    · cases h
  · cases h

theorem addr_add0 (b o i : Nat) : (⟨b, o, none⟩ : Addr).add i = ⟨b, o + i, none⟩ := by unfold Addr.add; split <;> simp_all

/-! loads -/
theorem run_loadVar_cells {t : TypeId} {sh : Nat} (h : tsh P t = some sh) {w : World} {b o : Nat} {v : Value} (hv : vshape v = sh) (hn : v.cells.size = stride sh)
    (hc : cellsAt w b o v.cells.toList) : (loadVar t ⟨b, o, none⟩).run P w = .ok v w := by
  simp only [loadVar, Sem.run_bind, tsh_agg h, Result.andThen_ok]
  by_cases h0 : sh = 0
  · subst h0
    have hcell : v.cells = #[v] := by
      cases v with
      | agg cs => simp only [vshape] at hv; simp [Value.cells, hv, stride] at hn
      | _ => rfl
    have := hc 0 v (by simp [hcell])
    simp at this
    simp [this]
  · have hv' : ∃ cs, v = .agg cs := by
      cases v with
      | agg cs => exact ⟨cs, rfl⟩
      | _ => exact absurd hv (Ne.symm h0)
    obtain ⟨cs, rfl⟩ := hv'
    simp only [vshape] at hv
    have hst : stride sh = cs.toList.length := by simp [stride, h0, hv]
    have hl := run_loadCells_list (P := P) w ⟨b, o, none⟩ cs.toList (fun j u hu => by rw [addr_add0]; exact hc j u hu)
    rw [if_pos (by simp [h0])]
    simp only [Sem.run_bind, tsh_size h, Result.andThen_ok, hst, hl]
    simp

theorem cellsAt_drop {w : World} {b o : Nat} {cs : List Value} (h : cellsAt w b o cs) (k : Nat) : cellsAt w b (o + k) (cs.drop k) := by
  intro j v hv
  rw [Nat.add_assoc]
  exact h (k + j) v (by simpa using hv)
theorem cellsAt_take {w : World} {b o : Nat} {cs : List Value} (h : cellsAt w b o cs) (k : Nat) : cellsAt w b o (cs.take k) := by
  intro j v hv
  rw [List.getElem?_take] at hv
  split at hv
  · exact h j v hv
  · cases hv

/-- A part of what lies somewhere. -/
theorem part_cells {cs : List Value} {u : Value} {off n : Nat} (hu : u.cells.toList = cs) (hc : ∀ c ∈ cs, c.oneCell' = true) :
    (∀ c, n = 0 → cs[off]? = some c → vshape c = 0 ∧ c.cells = #[c]) := by
  intro c _ h
  have := hc c (List.mem_of_getElem? h)
  cases c <;> simp_all [Value.oneCell', vshape, Value.cells]

theorem partP_ok {w : World} {Z : Nat → Prop} {x y : PV} {u : Value} {xsh off sh : Nat} (h : RP w Z x u) (hx : vshape u = xsh) (hp : partP x xsh off sh = some y) :
    ∃ v, RP w Z y v ∧ vshape v = sh ∧ v.cells.size = stride sh ∧ ∀ (b o : Nat), cellsAt w b o u.cells.toList → cellsAt w b (o + off) v.cells.toList := by
  unfold partP at hp
  split at hp
  · rename_i he
    cases hp
    refine ⟨u, h, hx.trans he.2.symm, ?_, fun b o hc => by rw [he.1]; exact hc⟩
    rw [RP_size h, ← RP_shape h, hx, he.2]
  · rename_i hne
    by_cases hagg : ∃ xs, x = .agg xs
    · obtain ⟨xs, rfl⟩ := hagg
      simp only [RP] at h
      obtain ⟨h1, cs, rfl, h2, h3⟩ := h
      split at hp
      · simp only [PV.cells] at hp
        obtain ⟨c, hc, hr⟩ := RPs_get h2 hp
        have h4 := part_cells (n := 0) (off := off) (u := .agg cs.toArray) (cs := cs) (by simp [Value.cells]) h3 c rfl hc
        refine ⟨c, hr, h4.1, by rw [h4.2]; rfl, fun b o hca => ?_⟩
        rw [h4.2]
        intro j v hv
        have : j = 0 ∧ v = c := by
          cases j with
          | zero => simp at hv; exact ⟨rfl, hv.symm⟩
          | succ j => simp at hv
        obtain ⟨rfl, rfl⟩ := this
        simpa [Value.cells] using hca off v (by simpa [Value.cells] using hc)
      · rename_i hz
        split at hp
        · rename_i hle
          cases hp
          replace hle := hle.1
          simp only [PV.cells] at hle ⊢
          have hlen := RPs_length h2
          refine ⟨.agg ((cs.drop off).take sh).toArray, ?_, ?_, ?_, fun b o hca => ?_⟩
          · simp only [RP]
            refine ⟨?_, _, rfl, RPs_take (RPs_drop h2 off) sh, fun c hc => h3 c (List.mem_of_mem_drop (List.mem_of_mem_take hc))⟩
            intro e
            have h5 := congrArg List.length e
            have h6 : sh ≠ 0 := fun e => hz e
            simp at h5
            omega
          · simp [vshape]; omega
          · have : sh ≠ 0 := fun e => hz e
            simp [Value.cells, stride, this]; omega
          · simp only [Value.cells] at hca ⊢
            exact cellsAt_take (cellsAt_drop (by simpa using hca) off) sh
        · cases hp
    · have hx' : ∀ xs, x ≠ .agg xs := fun xs e => hagg ⟨xs, e⟩
      have hl := leaf_vshape h hx'
      have e : x.cells = [x] := by cases x <;> first | rfl | exact absurd rfl (hx' _)
      rw [hl.1] at hx
      subst hx
      rw [e] at hp
      split at hp
      · cases off with
        | zero => exact absurd ⟨rfl, rfl⟩ hne
        | succ k => simp at hp
      · rename_i hz
        split at hp
        · rename_i hle
          exact absurd (by cases x <;> first | rfl | exact absurd rfl (hx' _)) hle.2
        · cases hp

theorem partA_ok {s : St} {x y : AV} {u : Value} {xsh off sh : Nat} (h : RA s x u) (hx : xsh = x.shape) (hp : partA x xsh off sh = some y) :
    ∃ v, RA s y v ∧ vshape v = sh ∧ v.cells.size = stride sh ∧ ∀ (b o : Nat), cellsAt s.w b o u.cells.toList → cellsAt s.w b (o + off) v.cells.toList := by
  unfold partA at hp
  split at hp
  · cases hp
  rename_i hU
  have hu : x ≠ .undef := by rintro rfl; simp [AV.isU] at hU
  split at hp
  · rename_i he
    cases hp
    have hsh := RA_shape h hu
    refine ⟨u, h, by rw [hsh, he.2, hx], ?_, fun b o hc => by rw [he.1]; exact hc⟩
    rw [RA_size h hu, he.2, hx]
  · rename_i hne
    have hcells := RA_cells h hu
    have hsz := RA_size h hu
    by_cases hs0 : x.shape = 0
    · split at hp
      · cases off with
        | zero => exact absurd ⟨rfl, hx ▸ hs0.symm⟩ hne
        | succ k =>
          have h1 := RAs_length hcells
          rw [Array.length_toList, hsz, hs0] at h1
          have h2 := (List.getElem?_eq_some_iff.1 hp).1
          simp [stride] at h1
          omega
      · split at hp
        · rename_i hle; exact absurd hs0 hle.2
        · cases hp
    · have hag : ∃ cs : List Value, u = .agg cs.toArray ∧ RAs s x.cells cs ∧ ∀ c ∈ cs, c.oneCell' = true := by
        cases x with
        | agg xs =>
          simp only [RA] at h
          obtain ⟨_, cs, e, h2, h3⟩ := h
          exact ⟨cs, e, h2, h3⟩
        | p z =>
          cases z with
          | agg xs =>
            simp only [RA, RP] at h
            obtain ⟨_, cs, e, h2, h3⟩ := h
            exact ⟨cs, e, RAs_map_p.2 h2, h3⟩
          | _ => exact absurd rfl hs0
        | _ => exact absurd rfl hs0
      obtain ⟨cs, rfl, h2, h3⟩ := hag
      split at hp
      · obtain ⟨c, hc, hr⟩ := RAs_get h2 hp
        have h4 := part_cells (n := 0) (off := off) (u := .agg cs.toArray) (cs := cs) (by simp [Value.cells]) h3 c rfl hc
        refine ⟨c, hr, h4.1, by rw [h4.2]; rfl, fun b o hca => ?_⟩
        rw [h4.2]
        intro j v hv
        have : j = 0 ∧ v = c := by
          cases j with
          | zero => simp at hv; exact ⟨rfl, hv.symm⟩
          | succ j => simp at hv
        obtain ⟨rfl, rfl⟩ := this
        simpa [Value.cells] using hca off v (by simpa [Value.cells] using hc)
      · rename_i hz
        split at hp
        · rename_i hle
          cases hp
          replace hle := hle.1
          have hlen := RAs_length h2
          refine ⟨.agg ((cs.drop off).take sh).toArray, RA_mkAgg ?_, ?_, ?_, fun b o hca => ?_⟩
          · simp only [RA]
            refine ⟨?_, _, rfl, RAs_take (RAs_drop h2 off) sh, fun c hc => h3 c (List.mem_of_mem_drop (List.mem_of_mem_take hc))⟩
            intro e
            have h5 := congrArg List.length e
            have h6 : sh ≠ 0 := fun e => hz e
            simp at h5
            omega
          · simp [vshape]; omega
          · have : sh ≠ 0 := fun e => hz e
            simp [Value.cells, stride, this]; omega
          · simp only [Value.cells] at hca ⊢
            exact cellsAt_take (cellsAt_drop (by simpa using hca) off) sh
        · cases hp

theorem cellsAt_self {w : World} {b : Nat} {c : Array Value} {e : TypeId} {fr : Nat × Nat} (h : w.heap[b]? = some (.cells c e fr)) : cellsAt w b 0 c.toList := by
  intro j v hv
  simpa [World.cell?, h] using hv

theorem kd_of_arr {H : Heap} {b : Nat} {l : Bool} {g sh : Nat} {xs : List PV} (h : H[b]? = some (.arr l g sh xs)) : kd H b = some (.arr g sh) := by simp [kd, h]
theorem kd_of_var {H : Heap} {b : Nat} {l : Bool} {x : AV} (h : H[b]? = some (.var l x)) : kd H b = some .var := by simp [kd, h]
theorem kd_of_map {H : Heap} {b : Nat} {l : Bool} {g : Nat} {ks : List PV} {vs : List AV} (h : H[b]? = some (.map l g ks vs)) : kd H b = some (.map g) := by simp [kd, h]

/-- One that leaves the world as it is. -/
def SimS (P : Program) (s : St) (m : Sem Value) (av : AV) : Prop := ∃ v, m.run P s.w = .ok v s.w ∧ RA s av v
theorem SimS.same {s : St} (hs : WF s) {m : Sem Value} {av : AV} {v : Value} (h : m.run P s.w = .ok v s.w) (hv : RA s av v) : SimS P s m av := ⟨v, h, hv⟩
theorem evLoad_same {s : St} (hs : WF s) {t : TypeId} {a av : AV} {v : Value} (ha : RA s a v) (h : evLoad P t a s.H = some av) : SimS P s (Instr.loadAt t v) av := by
  unfold evLoad at h
  cases ht : tsh P t with
  | none => simp [ht] at h
  | some sh =>
    simp only [ht] at h
    split at h
    · rename_i x xsh off
      simp only [Option.map_eq_some_iff] at h
      obtain ⟨y, hy, rfl⟩ := h
      simp only [RA, RP] at ha
      obtain ⟨b, o, rfl, hz, u, h1, h2, h3⟩ := ha
      obtain ⟨r, h4, h5, h6, h7⟩ := partP_ok h1 h2 hy
      refine SimS.same hs (v := r) ?_ (by simpa only [RA] using h4)
      simp only [Instr.loadAt, Instr.sureAddr, Sem.run_bind, Sem.run_pure, Result.andThen_ok]
      exact run_loadVar_cells ht h5 h6 (h7 b o h3)
    · rename_i b off
      split at h
      · rename_i l x hb
        simp only [RA] at ha
        obtain ⟨_, rfl⟩ := ha
        have hB := hs.blk b _ hb
        simp only [RB] at hB
        obtain ⟨u, e, lo, hi, h1, h2, _, _⟩ := hB
        obtain ⟨r, h4, h5, h6, h7⟩ := partA_ok h1 rfl h
        refine SimS.same hs (v := r) ?_ h4
        simp only [Instr.loadAt, Instr.sureAddr, Sem.run_bind, Sem.run_pure, Result.andThen_ok]
        have := h7 (s.ι b) 0 (cellsAt_self h2)
        rw [Nat.zero_add] at this
        exact run_loadVar_cells ht h5 h6 this
      · cases h
    · rename_i b g i off
      split at h
      · rename_i l g' xsh xs hb
        split at h
        · rename_i hg
          simp only [Option.bind_eq_some_iff, Option.map_eq_some_iff] at h
          obtain ⟨x, hx, y, hy, rfl⟩ := h
          simp only [RA] at ha
          obtain ⟨ad, g0, sh0, rfl, hk, _, had⟩ := ha
          rw [kd_of_arr hb] at hk
          simp only [Option.some.injEq, Kd.arr.injEq] at hk
          obtain ⟨rfl, rfl⟩ := hk
          have hB := hs.blk b _ hb
          simp only [RB] at hB
          obtain ⟨c, e, lo, hi, h1, _, h3, _, _⟩ := hB
          obtain ⟨_, u, h4, h5, h6⟩ := RM_iff.1 h3 i x hx
          obtain ⟨r, h7, h8, h9, h10⟩ := partP_ok h4 h5 hy
          refine SimS.same hs (v := r) ?_ (by simpa only [RA] using h7)
          simp only [Instr.loadAt, Instr.sureAddr, Sem.run_bind, Sem.run_pure, Result.andThen_ok]
          rw [had hg.symm]
          have := h10 _ _ h6
          rw [Nat.add_assoc] at this
          exact run_loadVar_cells ht h8 h9 this
        · cases h
      · cases h
    · cases h

/-! addresses -/

theorem evLoad_ok {s : St} (hs : WF s) {t : TypeId} {a av : AV} {v : Value} (ha : RA s a v) (h : evLoad P t a s.H = some av) : Sim P s (Instr.loadAt t v) av s.H := by
  obtain ⟨u, h1, h2⟩ := evLoad_same hs ha h
  exact Sim.same hs h1 h2

theorem tfield_run {s : TypeId} {f o sh : Nat} (h : tfield P s f = some (o, sh)) : ∃ fs x, P.underlying s = some (.struct fs) ∧ fs[f]? = some x ∧ x.offset = o ∧ tsh P x.type = some sh := by
  unfold tfield at h
  split at h
  · rename_i fs hu
    simp only [Option.bind_eq_some_iff, Option.map_eq_some_iff, Prod.mk.injEq] at h
    obtain ⟨x, hx, sh', h1, h2, h3⟩ := h
    subst h3
    exact ⟨fs, x, hu, hx, h2, h1⟩
  · cases h
theorem run_fieldPlace {x : Field} {sh : Nat} (h : tsh P x.type = some sh) (w : World) (a : Addr) : (fieldPlace a x).run P w = .ok (a.add x.offset) w := by
  have := stride_pos sh
  simp only [fieldPlace, Sem.run_bind, tsh_size h, Result.andThen_ok]
  rw [if_neg (by omega)]
  rfl
theorem evFieldAddr_ok {s : St} (hs : WF s) {t : TypeId} {a av : AV} {f : Nat} {v : Value} (ha : RA s a v) (h : evFieldAddr P t a f = some av) : Sim P s (Instr.fieldAt t v f) av s.H := by
  unfold evFieldAddr at h
  cases ht : tfield P t f with
  | none => simp [ht] at h
  | some p =>
    obtain ⟨o, sh⟩ := p
    simp only [ht] at h
    obtain ⟨fs, x, h1, h2, h3, h4⟩ := tfield_run ht
    have hrun : ∀ ad : Addr, ad.spot = none → (Instr.fieldAt t (.pointer (some ad)) f).run P s.w = .ok (.pointer (some ⟨ad.block, ad.off + o, none⟩)) s.w := by
      intro ad hsp
      obtain ⟨b, off, sp⟩ := ad
      simp only at hsp
      subst hsp
      simp [Instr.fieldAt, run_underlying' h1, h2, Instr.sureAddr, run_fieldPlace h4, addr_add0, h3]
    split at h
    · rename_i y sy off
      cases h
      simp only [RA, RP] at ha
      obtain ⟨b, p, rfl, hz, u, h5, h6, h7⟩ := ha
      refine Sim.same hs (hrun _ rfl) ?_
      simp only [RA, RP]
      exact ⟨b, p, by rw [Nat.add_assoc], hz, u, h5, h6, h7⟩
    · rename_i b off
      cases h
      simp only [RA] at ha
      obtain ⟨h5, rfl⟩ := ha
      refine Sim.same hs (hrun _ rfl) ?_
      simp only [RA]
      exact ⟨h5, trivial⟩
    · rename_i b g j off
      cases h
      simp only [RA] at ha
      obtain ⟨ad, g0, sh0, rfl, h5, h6, h7⟩ := ha
      by_cases hg : g = g0
      · have e := h7 hg
        subst e
        refine Sim.same hs (hrun _ rfl) ?_
        simp only [RA]
        exact ⟨_, g0, sh0, rfl, h5, h6, fun _ => by simp only [Nat.add_assoc]⟩
      · obtain ⟨b', o', sp⟩ := ad
        refine Sim.same hs (v := .pointer (some ((⟨b', o', sp⟩ : Addr).add o))) ?_ ?_
        · simp [Instr.fieldAt, run_underlying' h1, h2, Instr.sureAddr, run_fieldPlace h4, h3]
        · simp only [RA]
          exact ⟨_, g0, sh0, rfl, h5, h6, fun e => absurd e hg⟩
    · cases h

end Go.Ev
end
section
/- STORES. -/
namespace Go.Ev
variable {P : Program}

theorem AV.shape_p (x : PV) : (AV.p x).shape = x.shape := by cases x <;> rfl
theorem heap_setCell_at {w : World} {b o : Nat} {c : Array Value} {e : TypeId} {fr : Nat × Nat} (h : w.heap[b]? = some (.cells c e fr)) (v : Value) :
    (w.setCell ⟨b, o, none⟩ v).heap[b]? = some (.cells (c.setIfInBounds o v) e fr) := by
  obtain ⟨lo, hi⟩ := fr
  have hlt := (Array.getElem?_eq_some_iff.1 h).1
  have heq := (Array.getElem?_eq_some_iff.1 h).2
  simp only [World.setCell]
  rw [Array.getElem?_eq_getElem (by simpa using hlt), Array.getElem_modify]
  simp [heq]
theorem heap_setCell_ne {w : World} {b o k : Nat} (hk : k ≠ b) (v : Value) : (w.setCell ⟨b, o, none⟩ v).heap[k]? = w.heap[k]? := by
  simp only [World.setCell]
  rw [Array.getElem?_modify]
  simp [Ne.symm hk]
theorem setR_length {α : Type} : ∀ (vs cs : List α) (o : Nat), (setR cs o vs).length = cs.length
  | [], _, _ => rfl
  | v :: vs, cs, o => by simp [setR, setR_length vs]
theorem setR_get {α : Type} : ∀ (vs cs : List α) (o j : Nat), (setR cs o vs)[j]? = if o ≤ j ∧ j < o + vs.length ∧ j < cs.length then vs[j - o]? else cs[j]?
  | [], cs, o, j => by
    simp only [setR, List.length_nil]
    rw [if_neg (by omega)]
  | v :: vs, cs, o, j => by
    simp only [setR, setR_get vs, List.length_set, List.length_cons]
    by_cases h : o + 1 ≤ j ∧ j < o + 1 + vs.length ∧ j < cs.length
    · rw [if_pos h, if_pos (by omega)]
      have : j - o = (j - (o + 1)) + 1 := by omega
      rw [this, List.getElem?_cons_succ]
    · rw [if_neg h, List.getElem?_set]
      by_cases e : o = j
      · subst e
        by_cases hl : o < cs.length
        · rw [if_pos rfl, if_pos hl, if_pos (by omega)]; simp
        · rw [if_pos rfl, if_neg hl, if_neg (by omega), List.getElem?_eq_none (by omega)]
      · rw [if_neg e, if_neg (by omega)]
theorem setR_full {α : Type} {vs cs : List α} (h : vs.length = cs.length) : setR cs 0 vs = vs := by
  apply List.ext_getElem?
  intro j
  rw [setR_get]
  by_cases hj : j < cs.length
  · rw [if_pos (by omega)]; simp
  · rw [if_neg (by omega), List.getElem?_eq_none (by omega), List.getElem?_eq_none (by omega)]

theorem heap_setCells_at (b : Nat) (e : TypeId) (fr : Nat × Nat) : ∀ (vs : List Value) (o : Nat) (w : World) (c : Array Value), w.heap[b]? = some (.cells c e fr) →
    (w.setCells b o vs).heap[b]? = some (.cells (setR c.toList o vs).toArray e fr)
  | [], o, w, c, h => by simpa [World.setCells, setR] using h
  | v :: vs, o, w, c, h => by
    rw [World.setCells, heap_setCells_at b e fr vs (o + 1) _ _ (heap_setCell_at h v)]
    simp [setR]
theorem heap_setCells_ne (b k : Nat) (hk : k ≠ b) : ∀ (vs : List Value) (o : Nat) (w : World), (w.setCells b o vs).heap[k]? = w.heap[k]?
  | [], o, w => rfl
  | v :: vs, o, w => by rw [World.setCells, heap_setCells_ne b k hk vs, heap_setCell_ne hk]
theorem setCells_rest (b : Nat) : ∀ (vs : List Value) (o : Nat) (w : World), (w.setCells b o vs).heap.size = w.heap.size ∧ (w.setCells b o vs).os = w.os ∧ (w.setCells b o vs).tape = w.tape ∧ (w.setCells b o vs).output = w.output
  | [], o, w => ⟨rfl, rfl, rfl, rfl⟩
  | v :: vs, o, w => by
    have := setCells_rest b vs (o + 1) (w.setCell ⟨b, o, none⟩ v)
    rw [World.setCells]
    exact ⟨by rw [this.1]; simp, by rw [this.2.1]; rfl, by rw [this.2.2.1]; rfl, by rw [this.2.2.2]; rfl⟩

theorem RAs_setR {s : St} : ∀ {vs : List AV} {ds : List Value} {xs : List AV} {cs : List Value} (o : Nat), RAs s xs cs → RAs s vs ds → RAs s (setR xs o vs) (setR cs o ds)
  | [], ds, xs, cs, o, h, k => by simp only [RAs] at k; subst k; exact h
  | v :: vs, ds, xs, cs, o, h, k => by
    simp only [RAs] at k
    obtain ⟨d, r, rfl, h1, h2⟩ := k
    simp only [setR]
    exact RAs_setR (o + 1) (RAs_set h h1) h2
theorem setR_mem {α : Type} : ∀ (vs cs : List α) (o : Nat) (x : α), x ∈ setR cs o vs → x ∈ cs ∨ x ∈ vs
  | [], cs, o, x, h => .inl h
  | v :: vs, cs, o, x, h => by
    simp only [setR] at h
    rcases setR_mem vs _ _ x h with h1 | h1
    · rcases List.mem_or_eq_of_mem_set h1 with h2 | h2
      · exact .inl h2
      · exact .inr (by simp [h2])
    · exact .inr (by simp [h1])

theorem mkAgg_stor (l : List AV) : (mkAgg l).stor = true := by unfold mkAgg; split <;> rfl
theorem withA_stor {x v y : AV} {off sh : Nat} (h : withA x off sh v = some y) : y.stor = true := by
  unfold withA at h
  split at h
  · rename_i hc
    split at h
    · cases h; exact hc.2.1
    · split at h
      · cases h; exact mkAgg_stor _
      · cases h
  · cases h

theorem withA_ok {s : St} {x y v : AV} {u r : Value} {off sh : Nat} (h : RA s x u) (hv : RA s v r) (hw : withA x off sh v = some y) :
    ∃ u', RA s y u' ∧ vshape u' = x.shape ∧ u'.cells.toList = setR u.cells.toList off r.cells.toList ∧ off + r.cells.size ≤ u.cells.size ∧ r.cells.size = stride sh ∧
      (∀ c ∈ r.cells.toList, c.oneCell' = true) ∧ y ≠ .undef := by
  unfold withA at hw
  split at hw
  · rename_i h0
    obtain ⟨h1, h2, h3⟩ := h0
    have hxu : x ≠ .undef := by rintro rfl; simp [AV.isU] at h3
    have hvu : v ≠ .undef := by rintro rfl; simp [AV.stor] at h2
    have hrs := RA_size hv hvu
    have hus := RA_size h hxu
    have hone := stor_oneCell hv h2
    rw [h1] at hrs
    split at hw
    · rename_i h4
      cases hw
      obtain ⟨rfl, h5⟩ := h4
      refine ⟨r, hv, by rw [RA_shape hv hvu, h1, h5], ?_, ?_, hrs, hone, hvu⟩
      · rw [setR_full]
        simp [hrs, hus, h5]
      · rw [hrs, hus, h5]; omega
    · split at hw
      · rename_i h4
        cases hw
        obtain ⟨h5, h6⟩ := h4
        have hcx := RA_cells h hxu
        have hcv := RA_cells hv hvu
        have hlx := RAs_length hcx
        have hag : ∀ c ∈ u.cells.toList, c.oneCell' = true := by
          refine stor_oneCell h ?_
          cases x with
          | agg xs => rfl
          | p z => cases z <;> first | rfl | exact absurd rfl h6
          | _ => exact absurd rfl h6
        refine ⟨.agg (setR u.cells.toList off r.cells.toList).toArray, RA_mkAgg ?_, ?_, ?_, ?_, hrs, hone, ?_⟩
        · simp only [RA]
          refine ⟨?_, _, rfl, RAs_setR off hcx hcv, fun c hc => ?_⟩
          · intro e
            have h7 := congrArg List.length e
            rw [setR_length] at h7
            have := stride_pos sh
            simp at h7
            rw [h7] at h5
            simp at h5
            omega
          · rcases setR_mem _ _ _ c hc with h7 | h7
            · exact hag c h7
            · exact hone c h7
        · simp only [vshape, List.size_toArray, setR_length, Array.length_toList, hus, stride]
          rw [if_neg h6]
        · simp [Value.cells]
        · rw [hrs]
          have : u.cells.size = x.cells.length := by simpa using hlx
          omega
        · unfold mkAgg; split <;> simp
      · cases hw
  · cases hw

/-- A store into cells that are there and may be written. -/
theorem run_storeVar_cells {t : TypeId} {sh : Nat} (h : tsh P t = some sh) {w : World} {b o : Nat} {c : Array Value} {e : TypeId} {lo hi : Nat} {v : Value}
    (hb : w.heap[b]? = some (.cells c e (lo, hi))) (hf : ∀ j, j < c.size → ¬ (lo ≤ j ∧ j < hi)) (hn : v.cells.size = stride sh) (hle : o + v.cells.size ≤ c.size)
    (h1 : ∀ x ∈ v.cells.toList, x.oneCell' = true) : (storeVar t ⟨b, o, none⟩ v).run P w = .ok () (w.setCells b o v.cells.toList) := by
  simp only [storeVar, Sem.run_bind, tsh_size h, Result.andThen_ok]
  rw [if_neg (by simp [hn])]
  have := run_storeCells_cells (P := P) b o v.cells.toList 0 w (fun j hj => by
      simp at hj
      simp only [World.cell?, hb]
      simp
      omega) (fun j hj => by
      simp at hj
      simp only [World.frozen?, hb]
      have := hf (o + 0 + j) (by omega)
      simp only [Bool.and_eq_false_iff, decide_eq_false_iff_not]
      omega) h1
  simpa using this

theorem evStore_ok {s : St} (hs : WF s) {t : TypeId} {a v : AV} {va vv : Value} {H' : Heap} (ha : RA s a va) (hv : RA s v vv) (h : evStore P t a v s.H = some H') :
    SimU P s (Instr.storeAt t va vv) H' := by
  unfold evStore at h
  cases ht : tsh P t with
  | none => simp [ht] at h
  | some sh =>
    simp only [ht] at h
    split at h
    · rename_i b off
      split at h
      · rename_i x hb
        simp only [Option.map_eq_some_iff] at h
        obtain ⟨y, hy, rfl⟩ := h
        simp only [RA] at ha
        obtain ⟨hk, rfl⟩ := ha
        have hlt := (List.getElem?_eq_some_iff.1 hb).1
        have hB := hs.blk b _ hb
        simp only [RB] at hB
        obtain ⟨u, e, lo, hi, h1, h2, h3, _⟩ := hB
        obtain ⟨u', h4, h5, h6, h7, h8, h9, h10⟩ := withA_ok h1 hv hy
        have hrest := setCells_rest (s.ι b) vv.cells.toList off s.w
        have hat := heap_setCells_at (s.ι b) e (lo, hi) vv.cells.toList off s.w _ h2
        have r : Rewrites s b (.var true y) (s.w.setCells (s.ι b) off vv.cells.toList) :=
          ⟨hlt, by simp [live, hb], hrest.1, fun k hk => heap_setCells_ne _ k hk _ _ _, hrest.2.1, hrest.2.2.1, hrest.2.2.2⟩
        have hkf : KdFits s b (.var true y) (s.w.setCells (s.ι b) off vv.cells.toList) := by unfold KdFits; rw [hk]; trivial
        have ev := Evo.put hs r hkf
        refine ⟨s.put b (.var true y) (s.w.setCells (s.ι b) off vv.cells.toList), ?_, rfl, ev, WF.put hs r hkf ?_⟩
        · simp only [Instr.storeAt, Instr.sureAddr, Sem.run_bind, Sem.run_pure, Result.andThen_ok]
          exact run_storeVar_cells ht h2 h3 h8 h7 h9
        · simp only [RB]
          refine ⟨u', e, lo, hi, RA_mono hs ev _ _ h4, ?_, ?_, fun h => by cases h⟩
          · show (s.w.setCells (s.ι b) off vv.cells.toList).heap[s.ι b]? = _
            rw [hat, ← h6]
          · intro j hj
            have : u'.cells.size = u.cells.size := by
              have := congrArg List.length h6
              simpa [setR_length] using this
            exact h3 j (by omega)
      · cases h
    · rename_i b g i off
      split at h
      · rename_i g' xsh xs hb
        split at h
        · rename_i hg
          subst hg
          simp only [Option.bind_eq_some_iff] at h
          obtain ⟨x, hx, h⟩ := h
          split at h
          · rename_i hxs
            simp only [Option.bind_eq_some_iff, Option.map_eq_some_iff] at h
            obtain ⟨y, hy, z, hz, rfl⟩ := h
            have hyz : y = .p z := by cases y <;> simp [unP] at hz; rw [hz]
            subst hyz
            simp only [RA] at ha
            obtain ⟨ad, g0, sh0, rfl, hk, _, had⟩ := ha
            have hk0 := kd_of_arr hb
            rw [hk0] at hk
            simp only [Option.some.injEq, Kd.arr.injEq] at hk
            obtain ⟨rfl, rfl⟩ := hk
            have hade := had rfl
            subst hade
            have hlt := (List.getElem?_eq_some_iff.1 hb).1
            have hB := hs.blk b _ hb
            simp only [RB] at hB
            obtain ⟨c, e, lo, hi, h1, h2, h3, h3', _⟩ := hB
            have hM := RM_iff.1 h3
            obtain ⟨_, u, h4, h5, h6⟩ := hM i x hx
            have hRx : RA s (.p x) u := by simpa only [RA] using h4
            obtain ⟨u', k1, k2, k3, k4, k5, k6, k7⟩ := withA_ok hRx hv hy
            have hxi := (List.getElem?_eq_some_iff.1 hx).1
            have hus : u.cells.size = stride xsh := by rw [RP_size h4, hxs]
            have hbound : s.β b + (i * stride xsh + stride xsh) ≤ c.size := by
              have : (i + 1) * stride xsh ≤ xs.length * stride xsh := Nat.mul_le_mul_right _ hxi
              rw [Nat.succ_mul] at this
              omega
            have hrest := setCells_rest (s.ι b) vv.cells.toList (s.β b + (i * stride xsh + off)) s.w
            have hat := heap_setCells_at (s.ι b) e (lo, hi) vv.cells.toList (s.β b + (i * stride xsh + off)) s.w _ h1
            have r : Rewrites s b (.arr true g' xsh (xs.set i z)) (s.w.setCells (s.ι b) (s.β b + (i * stride xsh + off)) vv.cells.toList) :=
              ⟨hlt, by simp [live, hb], hrest.1, fun k hk => heap_setCells_ne _ k hk _ _ _, hrest.2.1, hrest.2.2.1, hrest.2.2.2⟩
            have hcs : csize (s.w.setCells (s.ι b) (s.β b + (i * stride xsh + off)) vv.cells.toList) (s.ι b) = csize s.w (s.ι b) := by
              simp only [csize, hat, h1]; simp [setR_length]
            have hkf : KdFits s b (.arr true g' xsh (xs.set i z)) (s.w.setCells (s.ι b) (s.β b + (i * stride xsh + off)) vv.cells.toList) := by
              unfold KdFits; rw [hk0]; exact ⟨Nat.le_refl _, rfl, fun _ => hcs⟩
            have ev := Evo.put hs r hkf
            refine ⟨s.put b (.arr true g' xsh (xs.set i z)) (s.w.setCells (s.ι b) (s.β b + (i * stride xsh + off)) vv.cells.toList), ?_, rfl, ev, WF.put hs r hkf ?_⟩
            · simp only [Instr.storeAt, Instr.sureAddr, Sem.run_bind, Sem.run_pure, Result.andThen_ok]
              exact run_storeVar_cells ht h1 (fun j _ => h2 j) k5 (by omega) k6
            · simp only [RB]
              refine ⟨_, e, lo, hi, hat, ?_, RM_iff.2 fun j q hq => ?_, by simpa [setR_length, St.put] using h3', fun h => by cases h⟩
              · exact h2
              · rw [List.getElem?_set] at hq
                split at hq
                · rename_i hij
                  subst hij
                  simp only [Option.some.injEq] at hq
                  subst hq
                  have k1' : RP s.w s.Z z u' := by simpa only [RA] using k1
                  refine ⟨by simpa [AV.stor] using withA_stor hy, u', RP_mono ev.Zm (hs.zkeep ev) z u' k1', by rw [k2, AV.shape_p]; exact hxs, ?_⟩
                  intro m d hd
                  rw [k3] at hd
                  simp only [World.cell?, St.put, hat]
                  simp only [Option.isSome_none, Bool.false_eq_true, if_false]
                  rw [List.getElem?_toArray, setR_get]
                  rw [setR_get] at hd
                  simp only [Array.length_toList] at hd ⊢
                  split at hd
                  · rename_i hm
                    rw [if_pos (by omega)]
                    rw [show s.β b + i * stride xsh + m - (s.β b + (i * stride xsh + off)) = m - off by omega]
                    exact hd
                  · rename_i hm
                    have hml : m < u.cells.size := by
                      have := (List.getElem?_eq_some_iff.1 hd).1
                      simpa using this
                    rw [if_neg (by omega)]
                    have := h6 m d hd
                    simp only [World.cell?, h1] at this
                    simpa using this
                · rename_i hij
                  obtain ⟨q0, u2, q1, q2, q3⟩ := hM j q hq
                  refine ⟨q0, u2, RP_mono ev.Zm (hs.zkeep ev) q u2 q1, q2, ?_⟩
                  intro m d hd
                  have hml : m < stride xsh := by
                    have h7 := (List.getElem?_eq_some_iff.1 hd).1
                    have h8 := RP_size q1
                    rw [← RP_shape q1, q2] at h8
                    simp at h7; omega
                  have hcell := q3 m d hd
                  simp only [World.cell?, h1] at hcell
                  simp only [World.cell?, St.put, hat]
                  simp only [Option.isSome_none, Bool.false_eq_true, if_false] at hcell ⊢
                  rw [List.getElem?_toArray, setR_get]
                  have hsep : i * stride xsh + stride xsh ≤ j * stride xsh ∨ j * stride xsh + stride xsh ≤ i * stride xsh := by
                    rcases Nat.lt_or_gt_of_ne hij with h9 | h9
                    · left
                      have := Nat.mul_le_mul_right (stride xsh) h9
                      rwa [Nat.succ_mul] at this
                    · right
                      have := Nat.mul_le_mul_right (stride xsh) h9
                      rwa [Nat.succ_mul] at this
                  rw [if_neg (by simp only [Array.length_toList]; omega)]
                  simpa using hcell
          · cases h
        · cases h
      · cases h
    · cases h

end Go.Ev
end
section
/- NEW VARIABLES AND ROWS; ELEMENTS; LITERALS. -/
namespace Go.Ev
variable {P : Program}

theorem RP_add {s : St} (hs : WF s) (o : Obj) (x : Blk) {y : PV} {v : Value} (h : RP s.w s.Z y v) : RP (s.add o x).w (s.add o x).Z y v :=
  RP_mono (Evo.add s hs o x).Zm (hs.zkeep (Evo.add s hs o x)) y v h

theorem alloc_arr {s : St} (hs : WF s) (c : Array Value) (e : TypeId) (sh : Nat) (xs : List PV)
    (hx : ∀ (i : Nat) (x : PV), xs[i]? = some x → x.stor = true ∧ ∃ u, RP s.w s.Z x u ∧ vshape u = sh ∧ ∀ (j : Nat) (v : Value), u.cells.toList[j]? = some v → c[i * stride sh + j]? = some v)
    (hl : xs.length * stride sh ≤ c.size) :
    Evo s (s.add (.cells c e) (.arr true 0 sh xs)) ∧ WF (s.add (.cells c e) (.arr true 0 sh xs)) ∧
      ∀ n cap, n ≤ cap → cap * stride sh ≤ c.size → RA (s.add (.cells c e) (.arr true 0 sh xs)) (.ref s.H.length 0 0 n false) (.slice (some ⟨s.w.heap.size, 0, none⟩) n cap) := by
  have ev := Evo.add s hs (.cells c e) (.arr true 0 sh xs)
  have hat : (s.add (.cells c e) (.arr true 0 sh xs)).w.heap[s.w.heap.size]? = some (.cells c e (0, 0)) := heap_alloc_at s.w _
  have hι : (s.add (.cells c e) (.arr true 0 sh xs)).ι s.H.length = s.w.heap.size := by simp [St.add]
  have hβ : (s.add (.cells c e) (.arr true 0 sh xs)).β s.H.length = 0 := by simp [St.add]
  refine ⟨ev, WF.add hs _ _ ?_, fun n cap hn hc => ?_⟩
  · simp only [RB]
    rw [hι, hβ]
    refine ⟨c, e, 0, 0, hat, fun j => by omega, RM_iff.2 fun i x hi => ?_, by omega, fun h => by cases h⟩
    obtain ⟨h0, u, h1, h2, h3⟩ := hx i x hi
    refine ⟨h0, u, RP_add hs _ _ h1, h2, fun j v hv => ?_⟩
    have := h3 j v hv
    simp only [World.cell?, hat]
    simpa using this
  · simp only [RA]
    refine ⟨_, cap, 0, sh, rfl, ?_, Nat.le_refl _, fun _ => ⟨⟨0, by rw [hι], by rw [hβ]; simp⟩, hn, ?_, fun h => by cases h⟩⟩
    · simp [kd, St.add]
    · rw [hι, hβ]; simp only [csize, hat]; simpa using hc

theorem alloc_var {s : St} (hs : WF s) {x : AV} {v : Value} (hv : RA s x v) (e : TypeId) :
    Evo s (s.add (.cells v.cells e) (.var true x)) ∧ WF (s.add (.cells v.cells e) (.var true x)) ∧
      RA (s.add (.cells v.cells e) (.var true x)) (.vptr s.H.length 0) (.pointer (some ⟨s.w.heap.size, 0, none⟩)) := by
  have ev := Evo.add s hs (.cells v.cells e) (.var true x)
  have hι : (s.add (.cells v.cells e) (.var true x)).ι s.H.length = s.w.heap.size := by simp [St.add]
  refine ⟨ev, WF.add hs _ _ ?_, ?_⟩
  · simp only [RB]
    rw [hι]
    exact ⟨v, e, 0, 0, RA_mono hs ev _ _ hv, heap_alloc_at s.w _, fun j _ => by omega, fun h => by cases h⟩
  · simp only [RA]
    exact ⟨by simp [kd, St.add], by rw [hι]⟩

theorem box_ok {s : St} (hs : WF s) {x : AV} {v : Value} (hv : RA s x v) (t : TypeId) : Sim P s (Instr.box t v) (.vptr s.H.length 0) (s.H ++ [.var true x]) := by
  obtain ⟨h1, h2, h3⟩ := alloc_var hs hv t
  exact ⟨_, s.add (.cells v.cells t) (.var true x), by simp [Instr.box, newVar, newRow, St.add], rfl, h1, h2, h3⟩

theorem tzero_run {t : TypeId} {z : AV} (h : tzero P t = some z) : ∃ v, (P.info? t).bind (·.zero) = some v ∧ zeroAV v = some z := by
  unfold tzero at h
  simpa only [Option.bind_eq_some_iff] using h

theorem alloc_ok {s : St} (hs : WF s) {t : TypeId} {r : AV × Heap} (h : evAlloc P t s.H = some r) : Sim P s (Instr.alloc t true (.tuple #[])) r.1 r.2 := by
  unfold evAlloc at h
  simp only [Option.bind_eq_some_iff] at h
  obtain ⟨z, hz, sh, hsh, h⟩ := h
  split at h
  · cases h
    obtain ⟨v, hv, hzv⟩ := tzero_run hz
    have hr : RA s z v := RA_zero hzv
    obtain ⟨h1, h2, h3⟩ := alloc_var hs hr t
    exact ⟨_, s.add (.cells v.cells t) (.var true z), by simp [Instr.alloc, run_zeroValue hv, newVar, newRow, St.add], rfl, h1, h2, h3⟩
  · cases h

/-! elements -/
theorem telem_run {t e : TypeId} {sh : Nat} (h : telem P t = some (e, sh)) : P.underlying t = some (.slice e) ∧ tsh P e = some sh := by
  unfold telem at h
  split at h
  · rename_i e' hu
    simp only [Option.bind_eq_some_iff] at h
    obtain ⟨sh', h1, h2⟩ := h
    split at h2
    · simp only [Option.some.injEq, Prod.mk.injEq] at h2
      obtain ⟨rfl, rfl⟩ := h2
      exact ⟨hu, h1⟩
    · cases h2
  · cases h
/-- An element type's zero has as many cells as the type. -/
theorem telem_zero {t e : TypeId} {sh : Nat} (h : telem P t = some (e, sh)) : ∃ i v, P.info? e = some i ∧ i.zero = some v ∧ v.cells.size = stride sh := by
  unfold telem at h
  split at h
  · rename_i e' hu
    simp only [Option.bind_eq_some_iff] at h
    obtain ⟨sh', h1, h2⟩ := h
    split at h2
    · rename_i hz
      simp only [Option.some.injEq, Prod.mk.injEq] at h2
      obtain ⟨rfl, rfl⟩ := h2
      rw [Option.any_eq_true] at hz
      obtain ⟨z, hz, hc⟩ := hz
      simp only [Bool.and_eq_true, beq_iff_eq] at hc
      obtain ⟨v, hv, hzv⟩ := tzero_run hz
      cases hi : P.info? e' with
      | none => rw [hi] at hv; cases hv
      | some i =>
        rw [hi] at hv
        simp only [Option.bind_some] at hv
        refine ⟨i, v, rfl, hv, ?_⟩
        have hR : RA ⟨[], default, id, fun _ => False, fun _ => 0⟩ z v := RA_zero hzv
        rw [RA_size hR (by rintro rfl; simp at hc), hc.1]
    · cases h2
  · cases h
theorem tarr_run {t : TypeId} {n sh : Nat} (h : tarr P t = some (n, sh)) : ∃ e, P.underlying t = some (.array n e) ∧ tsh P e = some sh := by
  unfold tarr at h
  split at h
  · rename_i n' e hu
    simp only [Option.map_eq_some_iff, Prod.mk.injEq] at h
    obtain ⟨sh', h1, h2, h3⟩ := h
    subst h2; subst h3
    exact ⟨e, hu, h1⟩
  · cases h

theorem evIndexAddr_ok {s : St} (hs : WF s) {t : TypeId} {x i av : AV} {vx vi : Value} (hx : RA s x vx) (hi : RA s i vi) (h : evIndexAddr P t x i s.H = some av) :
    Sim P s (Instr.indexAt t vx vi) av s.H := by
  unfold evIndexAddr at h
  split at h
  · rename_i k i
    simp only [RA, RP] at hi
    subst hi
    cases ht : telem P t with
    | some p =>
      obtain ⟨e, sh⟩ := p
      obtain ⟨hu, hsh⟩ := telem_run ht
      simp only [ht] at h
      split at h
      · rename_i s' xs
        split at h
        · rename_i hss
          subst hss
          simp only [Option.map_eq_some_iff] at h
          obtain ⟨y, hy, rfl⟩ := h
          unfold atI at hy
          split at hy
          · rename_i hi0
            simp only [RA, RP] at hx
            obtain ⟨a, len, cap, rfl, hlen, hcap, hm⟩ := hx
            have hlt := (List.getElem?_eq_some_iff.1 hy).1
            rcases hm with ⟨h0, _⟩ | ⟨b, o, rfl, hz, hm⟩
            · omega
            · obtain ⟨_, u, h1, h2, h3⟩ := RM_iff.1 hm i.toNat y hy
              refine Sim.same hs (v := .pointer (some ⟨b, o + i.toNat * stride s', none⟩)) ?_ ?_
              · simp [Instr.indexAt, asIntOf, run_underlying' hu, tsh_size hsh, addr_add0, hi0, show i < (len : Int) by omega]
              · simp only [RA, RP]
                exact ⟨b, o + i.toNat * stride s', by simp, hz, u, h1, h2, h3⟩
          · cases hy
        · cases h
      · rename_i b g off len ex
        split at h
        · rename_i l g' s' xs hb
          split at h
          · rename_i hc
            cases h
            obtain ⟨rfl, hi0, hil⟩ := hc
            simp only [RA] at hx
            obtain ⟨a, cap, g0, sh0, rfl, hk, hle, ha⟩ := hx
            have hk0 := kd_of_arr hb
            rw [hk0] at hk
            simp only [Option.some.injEq, Kd.arr.injEq] at hk
            obtain ⟨rfl, rfl⟩ := hk
            by_cases hg : g = g'
            · obtain ⟨⟨ao, ha1, ha3⟩, ha2, _⟩ := ha hg
              have hae : ao = s.β b + off * stride s' := ha3.resolve_right (by omega)
              subst hae; subst ha1
              refine Sim.same hs (v := .pointer (some ⟨s.ι b, s.β b + off * stride s' + i.toNat * stride s', none⟩)) ?_ ?_
              · simp [Instr.indexAt, asIntOf, run_underlying' hu, tsh_size hsh, addr_add0, hi0, hil]
              · simp only [RA]
                exact ⟨_, g', s', rfl, hk0, hle, fun _ => by rw [Nat.add_mul]; simp [Nat.add_assoc]⟩
            · refine Sim.same hs (v := .pointer (some (a.add (i.toNat * stride s')))) ?_ ?_
              · simp [Instr.indexAt, asIntOf, run_underlying' hu, tsh_size hsh, hi0, hil]
              · simp only [RA]
                exact ⟨_, g', s', rfl, hk0, hle, fun e => absurd e hg⟩
          · cases h
        · cases h
      · cases h
    | none =>
      simp only [ht] at h
      cases ht2 : tarr P t with
      | none => simp [ht2] at h
      | some p =>
        obtain ⟨n, sh⟩ := p
        obtain ⟨e, hu, hsh⟩ := tarr_run ht2
        simp only [ht2] at h
        split at h
        · rename_i hc
          obtain ⟨hi0, hin⟩ := hc
          have hrun : ∀ ad : Addr, (Instr.indexAt t (.pointer (some ad)) (.int k i)).run P s.w = .ok (.pointer (some (ad.add (i.toNat * stride sh)))) s.w := by
            intro ad
            simp [Instr.indexAt, asIntOf, run_underlying' hu, Instr.sureAddr, tsh_size hsh, hi0, hin]
          split at h
          · rename_i y sy off
            cases h
            simp only [RA, RP] at hx
            obtain ⟨b, o, rfl, hz, u, h1, h2, h3⟩ := hx
            refine Sim.same hs (hrun _) ?_
            simp only [RA, RP]
            exact ⟨b, o, by rw [addr_add0, Nat.add_assoc], hz, u, h1, h2, h3⟩
          · rename_i b off
            cases h
            simp only [RA] at hx
            obtain ⟨h1, rfl⟩ := hx
            refine Sim.same hs (hrun _) ?_
            simp only [RA]
            exact ⟨h1, by rw [addr_add0]⟩
          · rename_i b g j off
            cases h
            simp only [RA] at hx
            obtain ⟨ad, g0, sh0, rfl, h1, h2, h3⟩ := hx
            refine Sim.same hs (hrun _) ?_
            simp only [RA]
            refine ⟨_, g0, sh0, rfl, h1, h2, fun eg => ?_⟩
            rw [h3 eg, addr_add0]
            simp only [Nat.add_assoc]
          · cases h
        · cases h
  · cases h

/-! parts of values -/
theorem run_part {t : TypeId} {sh : Nat} (h : tsh P t = some sh) {w : World} {cs : List Value} {off : Nat} :
    (∀ c, sh = 0 → cs[off]? = some c → (part t cs.toArray off).run P w = .ok c w) ∧
    (sh ≠ 0 → off + sh ≤ cs.length → (part t cs.toArray off).run P w = .ok (.agg ((cs.drop off).take sh).toArray) w) := by
  refine ⟨fun c h0 hc => ?_, fun h0 hle => ?_⟩
  · simp only [part, Sem.run_bind, tsh_agg h, Result.andThen_ok]
    rw [if_neg (by simp [h0])]
    rw [List.getElem?_toArray, hc]
    rfl
  · simp only [part, Sem.run_bind, tsh_agg h, Result.andThen_ok]
    rw [if_pos (by simp [h0])]
    simp only [Sem.run_bind, tsh_size h, Result.andThen_ok, Sem.run_pure, stride, if_neg h0]
    congr 2
    apply Array.ext'
    simp [List.drop_take]

theorem shape_agg {s : St} {x : AV} {u : Value} (h : RA s x u) (h0 : x.shape ≠ 0) : ∃ cs : List Value, u = .agg cs.toArray ∧ RAs s x.cells cs ∧ ∀ c ∈ cs, c.oneCell' = true := by
  cases x with
  | agg xs =>
    simp only [RA] at h
    obtain ⟨_, cs, e, h2, h3⟩ := h
    exact ⟨cs, e, h2, h3⟩
  | p z =>
    cases z with
    | agg xs =>
      simp only [RA, RP] at h
      obtain ⟨_, cs, e, h2, h3⟩ := h
      exact ⟨cs, e, RAs_map_p.2 h2, h3⟩
    | _ => exact absurd rfl h0
  | _ => exact absurd rfl h0

/-- A part of a value, as 'Field' and 'Index' take it. -/
theorem partV_ok {s : St} {x y : AV} {cs : List Value} {t : TypeId} {off sh : Nat} (ht : tsh P t = some sh) (hc : RAs s x.cells cs) (h1 : ∀ c ∈ cs, c.oneCell' = true)
    (h : partC x.cells off sh = some y) :
    ∃ v, (part t cs.toArray off).run P s.w = .ok v s.w ∧ RA s y v := by
  have hlen := RAs_length hc
  obtain ⟨p1, p2⟩ := run_part (P := P) ht (w := s.w) (cs := cs) (off := off)
  cases sh with
  | zero =>
    simp only [partC] at h
    obtain ⟨c, hcc, hr⟩ := RAs_get hc h
    exact ⟨c, p1 c rfl hcc, hr⟩
  | succ n =>
    simp only [partC] at h
    split at h
    · rename_i hle
      cases h
      refine ⟨_, p2 (by omega) (by omega), RA_mkAgg ?_⟩
      simp only [RA]
      refine ⟨?_, _, rfl, RAs_take (RAs_drop hc off) (n + 1), fun c hm => h1 c (List.mem_of_mem_drop (List.mem_of_mem_take hm))⟩
      intro e
      have h5 := congrArg List.length e
      simp at h5
      omega
    · cases h

theorem evField_ok {s : St} (hs : WF s) {t : TypeId} {x av : AV} {f : Nat} {v : Value} (hx : RA s x v) (h : evField P t x f = some av) : Sim P s (Instr.field t v f) av s.H := by
  unfold evField at h
  cases ht : tfield P t f with
  | none => simp [ht] at h
  | some p =>
    obtain ⟨o, sh⟩ := p
    simp only [ht] at h
    obtain ⟨fs, fd, h1, h2, h3, h4⟩ := tfield_run ht
    split at h
    · cases h
    · rename_i hn
      have hn1 : x.shape ≠ 0 := fun e => hn (.inl e)
      obtain ⟨cs, rfl, hc, h5⟩ := shape_agg hx hn1
      obtain ⟨r, h6, h7⟩ := partV_ok (P := P) h4 hc h5 h
      refine Sim.same hs (v := r) ?_ h7
      simp only [Instr.field, Sem.run_bind, run_underlying' h1, Result.andThen_ok, h2, asAgg, Sem.run_pure, h3]
      exact h6

theorem evIndex_ok {s : St} (hs : WF s) {t : TypeId} {x i av : AV} {vx vi : Value} (hx : RA s x vx) (hi : RA s i vi) (h : evIndex P t x i = some av) : Sim P s (Instr.index t vx vi) av s.H := by
  unfold evIndex at h
  split at h
  · rename_i str k i
    simp only [RA, RP] at hx hi
    subst hx; subst hi
    split at h
    · rename_i hu
      simp only [Option.map_eq_some_iff] at h
      obtain ⟨c, hc, rfl⟩ := h
      unfold atI at hc
      split at hc
      · rename_i h0
        have hlt := (List.getElem?_eq_some_iff.1 hc).1
        have hce := (List.getElem?_eq_some_iff.1 hc).2
        refine Sim.same hs (v := .int .u8 c.toNat) ?_ (by simp only [RA, RP])
        have hget : (⟨str.toArray⟩ : ByteArray)[i.toNat]? = some c := by
          rw [getElem?_pos (⟨str.toArray⟩ : ByteArray) i.toNat (by simpa [ByteArray.size] using hlt)]
          congr 1
        simp only [Instr.index, asIntOf, Sem.run_bind, Sem.run_pure, Result.andThen_ok, run_underlying' hu, if_pos h0, hget]
      · cases hc
    · cases h
  · rename_i k i _
    simp only [RA, RP] at hi
    subst hi
    cases ht : tarr P t with
    | none => simp [ht] at h
    | some p =>
      obtain ⟨n, sh⟩ := p
      obtain ⟨e, hu, hsh⟩ := tarr_run ht
      simp only [ht] at h
      split at h
      · rename_i hc
        obtain ⟨hi0, hin, hn1, _⟩ := hc
        obtain ⟨cs, rfl, hcs, h5⟩ := shape_agg hx hn1
        obtain ⟨r, h6, h7⟩ := partV_ok (P := P) hsh hcs h5 h
        refine Sim.same hs (v := r) ?_ h7
        simp only [Instr.index, asIntOf, Sem.run_bind, Sem.run_pure, Result.andThen_ok, run_underlying' hu]
        rw [if_pos ⟨hi0, hin⟩]
        simp only [Sem.run_bind, tsh_size hsh, Result.andThen_ok]
        exact h6
      · cases h
  · cases h

end Go.Ev
end
section
/- SLICE EXPRESSIONS, LITERALS, CONVERSIONS, NUMBERS. -/
namespace Go.Ev
variable {P : Program}

/-! slice expressions -/
theorem extract_bytes (l : List UInt8) (i j : Nat) : (⟨l.toArray⟩ : ByteArray).extract i j = ⟨((l.take j).drop i).toArray⟩ := by
  apply ByteArray.ext
  rw [ByteArray.data_extract]
  simp [List.drop_take]

def ORel (s : St) : Option AV → Option Value → Prop
  | none, none => True
  | some x, some v => RA s x v
  | _, _ => False

theorem bnd_cases {s : St} {o : Option AV} {ov : Option Value} {y d n : Nat} (hr : ORel s o ov) (h : bnd o y d = some n) :
    (o = none ∧ ov = none ∧ n = d) ∨ ∃ x k i, o = some x ∧ ov = some (.int k i) ∧ 0 ≤ i ∧ i ≤ y ∧ n = i.toNat := by
  unfold bnd at h
  split at h
  · cases h
    cases ov with
    | none => exact .inl ⟨rfl, rfl, rfl⟩
    | some v => exact hr.elim
  · rename_i k i
    split at h
    · rename_i hc
      cases h
      cases ov with
      | none => exact hr.elim
      | some v =>
        simp only [ORel, RA, RP] at hr
        subst hr
        exact .inr ⟨_, k, i, rfl, rfl, hc.1, hc.2, rfl⟩
    · cases h
  · cases h
theorem run_bound (w : World) (k : IntKind) {i : Int} {y : Nat} (code : BoundsCode) (h : 0 ≤ i) (h' : i ≤ y) : (Instr.sliceBound (.int k i) y code).run P w = .ok i.toNat w := by
  simp [Instr.sliceBound, asIntOf, h, h']
theorem bounds2 {s : St} {lo hi : Option AV} {lov hiv : Option Value} {len cap l h : Nat} (isS : Bool) (hlo : ORel s lo lov) (hhi : ORel s hi hiv) (hle : len ≤ cap)
    (h1 : bnd hi len len = some h) (h2 : bnd lo h 0 = some l) (w : World) : (Instr.sliceBounds isS len cap lov hiv none).run P w = .ok (l, h, cap) w ∧ l ≤ h ∧ h ≤ len := by
  rcases bnd_cases hhi h1 with ⟨rfl, rfl, rfl⟩ | ⟨x, k, i, rfl, rfl, hi0, hi1, rfl⟩
  · rcases bnd_cases hlo h2 with ⟨rfl, rfl, rfl⟩ | ⟨x, k, i, rfl, rfl, hi0, hi1, rfl⟩
    · exact ⟨by simp [Instr.sliceBounds], by omega, by omega⟩
    · exact ⟨by simp [Instr.sliceBounds, run_bound w k _ hi0 hi1], by omega, by omega⟩
  · have hc : i ≤ (cap : Int) := by omega
    rcases bnd_cases hlo h2 with ⟨rfl, rfl, rfl⟩ | ⟨x, k', j, rfl, rfl, hj0, hj1, rfl⟩
    · exact ⟨by simp [Instr.sliceBounds, run_bound w k _ hi0 hc], by omega, by omega⟩
    · exact ⟨by simp only [Instr.sliceBounds, Sem.run_bind, Sem.run_pure, Result.andThen_ok, run_bound w k _ hi0 hc, run_bound w k' _ hj0 hj1], by omega, by omega⟩
theorem bounds3 {s : St} {lo hi mx : Option AV} {lov hiv mxv : Option Value} {len cap l h m : Nat} (hlo : ORel s lo lov) (hhi : ORel s hi hiv) (hmx : ORel s mx mxv) (hle : len ≤ cap)
    (hm : mx.isSome = true) (hh : hi.isSome = true) (h0 : bnd mx len 0 = some m) (h1 : bnd hi m 0 = some h) (h2 : bnd lo h 0 = some l) (w : World) :
    (Instr.sliceBounds true len cap lov hiv mxv).run P w = .ok (l, h, m) w ∧ l ≤ h ∧ h ≤ m ∧ m ≤ len := by
  rcases bnd_cases hmx h0 with ⟨rfl, rfl, rfl⟩ | ⟨x, k, i, rfl, rfl, hi0, hi1, rfl⟩
  · cases hm
  · rcases bnd_cases hhi h1 with ⟨rfl, rfl, rfl⟩ | ⟨x', k', i', rfl, rfl, hi0', hi1', rfl⟩
    · cases hh
    · have hc : i ≤ (cap : Int) := by omega
      rcases bnd_cases hlo h2 with ⟨rfl, rfl, rfl⟩ | ⟨x2, k2, j, rfl, rfl, hj0, hj1, rfl⟩
      · exact ⟨by simp only [Instr.sliceBounds, Sem.run_bind, Sem.run_pure, Result.andThen_ok, run_bound w k _ hi0 hc, run_bound w k' _ hi0' hi1'], by omega, by omega, by omega⟩
      · exact ⟨by simp only [Instr.sliceBounds, Sem.run_bind, Sem.run_pure, Result.andThen_ok, run_bound w k _ hi0 hc, run_bound w k' _ hi0' hi1', run_bound w k2 _ hj0 hj1], by omega, by omega, by omega⟩

theorem RM_sub {w : World} {Z : Nat → Prop} {sh : Nat} {xs : List PV} {b o : Nat} (h : RM w Z sh xs b o) (l k : Nat) : RM w Z sh ((xs.take k).drop l) b (o + l * stride sh) := by
  refine RM_iff.2 fun i x hi => ?_
  rw [List.getElem?_drop, List.getElem?_take] at hi
  split at hi
  · obtain ⟨ht, u, h1, h2, h3⟩ := RM_iff.1 h _ x hi
    refine ⟨ht, u, h1, h2, ?_⟩
    rw [Nat.add_assoc, ← Nat.add_mul]; exact h3
  · cases hi

theorem evSlice_ok {s : St} (hs : WF s) {t : TypeId} {x av : AV} {lo hi mx : Option AV} {vx : Value} {lov hiv mxv : Option Value} (hx : RA s x vx)
    (hlo : ORel s lo lov) (hhi : ORel s hi hiv) (hmx : ORel s mx mxv) (h : evSlice P t x lo hi mx s.H = some av) : Sim P s (Instr.sliceAt t vx lov hiv mxv) av s.H := by
  unfold evSlice at h
  split at h
  · rename_i str
    simp only [RA, RP] at hx
    subst hx
    split at h
    · rename_i hu
      simp only [Option.bind_eq_some_iff, Option.map_eq_some_iff] at h
      obtain ⟨hh, h1, l, h2, rfl⟩ := h
      cases mxv with
      | some v => exact hmx.elim
      | none =>
        obtain ⟨b1, b2, b3⟩ := bounds2 (P := P) (cap := str.length) false hlo hhi (Nat.le_refl _) h1 h2 s.w
        refine Sim.same hs (v := .string ⟨((str.take hh).drop l).toArray⟩) ?_ (by simp only [RA, RP])
        have hsz : (⟨str.toArray⟩ : ByteArray).size = str.length := by simp [ByteArray.size]
        simp [Instr.sliceAt, run_underlying' hu, Instr.slice, hsz, b1, extract_bytes]
    · cases h
  · rename_i sh xs
    split at h
    · rename_i e sh' ht
      obtain ⟨hu, hsh⟩ := telem_run ht
      split at h
      · rename_i hss
        subst hss
        simp only [Option.bind_eq_some_iff, Option.map_eq_some_iff] at h
        obtain ⟨hh, h1, l, h2, rfl⟩ := h
        cases mxv with
        | some v => exact hmx.elim
        | none =>
          simp only [RA, RP] at hx
          obtain ⟨a, len, cap, rfl, rfl, hcap, hm⟩ := hx
          obtain ⟨b1, b2, b3⟩ := bounds2 (P := P) (cap := cap) true hlo hhi hcap h1 h2 s.w
          refine Sim.same hs (v := .slice (if cap = l then a else a.map (·.add (l * stride sh'))) (hh - l) (cap - l)) ?_ ?_
          · simp [Instr.sliceAt, run_underlying' hu, Instr.slice, b1, tsh_size hsh]
          · simp only [RA, RP]
            refine ⟨_, _, _, rfl, by simp; omega, by omega, ?_⟩
            rcases hm with ⟨h3, h4⟩ | ⟨b, o, rfl, hz, hm⟩
            · left
              exact ⟨by omega, by omega⟩
            · right
              by_cases hc : cap = l
              · refine ⟨b, o, by rw [if_pos hc], hz, ?_⟩
                have : (xs.take hh).drop l = [] := by apply List.drop_eq_nil_of_le; simp; omega
                rw [this]; simp [RM]
              · refine ⟨b, o + l * stride sh', by rw [if_neg hc]; simp [addr_add0], hz, RM_sub hm l hh⟩
      · cases h
    · cases h
  · split at h
    · rename_i e ht
      obtain ⟨e, sh'⟩ := e
      obtain ⟨hu, hsh⟩ := telem_run ht
      simp only [Option.bind_eq_some_iff, Option.map_eq_some_iff] at h
      obtain ⟨hh, h1, l, h2, rfl⟩ := h
      cases mxv with
      | some v => exact hmx.elim
      | none =>
        simp only [RA] at hx
        subst hx
        obtain ⟨b1, b2, b3⟩ := bounds2 (P := P) (len := 0) (cap := 0) true hlo hhi (Nat.le_refl _) h1 h2 s.w
        have : hh = 0 := by omega
        subst this
        have : l = 0 := by omega
        subst this
        refine Sim.same hs (v := .slice none 0 0) ?_ (by simp only [RA])
        simp [Instr.sliceAt, run_underlying' hu, Instr.slice, b1, tsh_size hsh]
    · rename_i e m ht
      obtain ⟨e, sh'⟩ := e
      obtain ⟨hu, hsh⟩ := telem_run ht
      simp only [Option.bind_eq_some_iff] at h
      obtain ⟨mm, h0, hh, h1, h⟩ := h
      split at h
      · rename_i hsome
        simp only [Option.map_eq_some_iff] at h
        obtain ⟨l, h2, rfl⟩ := h
        simp only [RA] at hx
        subst hx
        obtain ⟨b1, b2, b3, b4⟩ := bounds3 (P := P) (len := 0) (cap := 0) hlo hhi hmx (Nat.le_refl _) rfl hsome h0 h1 h2 s.w
        have : mm = 0 := by omega
        subst this
        have : hh = 0 := by omega
        subst this
        have : l = 0 := by omega
        subst this
        refine Sim.same hs (v := .slice none 0 0) ?_ (by simp only [RA])
        simp [Instr.sliceAt, run_underlying' hu, Instr.slice, b1, tsh_size hsh]
      · cases h
    · cases h
  · rename_i b g off len ex
    split at h
    · rename_i e sh' ht
      obtain ⟨hu, hsh⟩ := telem_run ht
      split at h
      · rename_i lv g' sh xs hb
        split at h
        · rename_i hss
          obtain ⟨hss, hg⟩ := hss
          subst hss
          simp only [RA] at hx
          obtain ⟨a, cap, g0, sh0, rfl, hk, hle, ha⟩ := hx
          have hk0 := kd_of_arr hb
          rw [hk0] at hk
          simp only [Option.some.injEq, Kd.arr.injEq] at hk
          obtain ⟨rfl, rfl⟩ := hk
          obtain ⟨⟨ao, rfl, a1⟩, a2, a3, a4⟩ := ha hg
          split at h
          · simp only [Option.bind_eq_some_iff, Option.map_eq_some_iff] at h
            obtain ⟨hh, h1, l, h2, rfl⟩ := h
            cases mxv with
            | some v => exact hmx.elim
            | none =>
              obtain ⟨b1, b2, b3⟩ := bounds2 (P := P) (cap := cap) true hlo hhi a2 h1 h2 s.w
              refine Sim.same hs (v := .slice (some (if cap = l then ⟨s.ι b, ao, none⟩ else (⟨s.ι b, ao, none⟩ : Addr).add (l * stride sh'))) (hh - l) (cap - l)) ?_ ?_
              · simp only [Instr.sliceAt, Sem.run_bind, run_underlying' hu, Result.andThen_ok, Instr.slice, b1, tsh_size hsh, Sem.run_pure]
                split <;> rfl
              · simp only [RA]
                refine ⟨_, _, g', sh', rfl, hk0, hle, fun _ => ⟨?_, by omega, ?_, fun he => ?_⟩⟩
                · by_cases hc : cap = l
                  · exact ⟨ao, by rw [if_pos hc], by right; omega⟩
                  · exact ⟨ao + l * stride sh', by rw [if_neg hc, addr_add0], by left; rw [a1.resolve_right (by omega), Nat.add_mul, Nat.add_assoc]⟩
                · have : off + l + (cap - l) = off + cap := by omega
                  rw [this]; exact a3
                · simp only [Bool.and_eq_true, beq_iff_eq] at he
                  have := a4 he.1
                  omega
          · rename_i m
            simp only [Option.bind_eq_some_iff] at h
            obtain ⟨m', h0, hh, h1, h⟩ := h
            split at h
            · rename_i hc
              simp only [Option.map_eq_some_iff] at h
              obtain ⟨l, h2, rfl⟩ := h
              obtain ⟨hc1, rfl⟩ := hc
              obtain ⟨b1, b2, b3, b4⟩ := bounds3 (P := P) (cap := cap) hlo hhi hmx a2 rfl hc1 h0 h1 h2 s.w
              refine Sim.same hs (v := .slice (some (if hh = l then ⟨s.ι b, ao, none⟩ else (⟨s.ι b, ao, none⟩ : Addr).add (l * stride sh'))) (hh - l) (hh - l)) ?_ ?_
              · simp only [Instr.sliceAt, Sem.run_bind, run_underlying' hu, Result.andThen_ok, Instr.slice, b1, tsh_size hsh, Sem.run_pure]
                split <;> rfl
              · simp only [RA]
                refine ⟨_, _, g', sh', rfl, hk0, hle, fun _ => ⟨?_, by omega, ?_, fun he => rfl⟩⟩
                · by_cases hc : hh = l
                  · exact ⟨ao, by rw [if_pos hc], by right; omega⟩
                  · exact ⟨ao + l * stride sh', by rw [if_neg hc, addr_add0], by left; rw [a1.resolve_right (by omega), Nat.add_mul, Nat.add_assoc]⟩
                · refine Nat.le_trans (Nat.add_le_add_left (Nat.mul_le_mul_right _ ?_) _) a3
                  omega
            · cases h
        · cases h
      · cases h
    · cases h
  · cases h

end Go.Ev
end
section
/- LITERALS, NEW SLICES, CONVERSIONS, NUMBERS, COMPARISONS. -/
namespace Go.Ev
variable {P : Program}

/-! struct and array literals -/
theorem foldl_zipIdx_setR : ∀ (vs : List Value) (cells : Array Value) (off k : Nat),
    ((vs.zipIdx k).foldl (fun cs (c : Value × Nat) => cs.setIfInBounds (off + c.2) c.1) cells).toList = setR cells.toList (off + k) vs
  | [], cells, off, k => by simp [setR]
  | v :: vs, cells, off, k => by
    simp only [List.zipIdx_cons, List.foldl_cons, setR]
    rw [foldl_zipIdx_setR vs _ off (k + 1)]
    simp [Nat.add_assoc]
theorem fill_step (v : Value) (cells : Array Value) (off : Nat) :
    (v.cells.zipIdx.foldl (fun cs (c : Value × Nat) => cs.setIfInBounds (off + c.2) c.1) cells).toList = setR cells.toList off v.cells.toList := by
  have := foldl_zipIdx_setR v.cells.toList cells off 0
  rw [Nat.add_zero] at this
  rw [← this, ← Array.foldl_toList, Array.toList_zipIdx]

theorem fillA_ok {s : St} {place : Nat → Option (Nat × Nat)} : ∀ {parts : List (Nat × AV)} {pv : List (Nat × Value)} {cs cs' : List AV} {D : Array Value},
    pv.map (·.1) = parts.map (·.1) → RAs s (parts.map (·.2)) (pv.map (·.2)) → RAs s cs D.toList → (∀ c ∈ D.toList, c.oneCell' = true) → fillA place cs parts = some cs' →
    ∃ D', Instr.fill place D pv = some D' ∧ RAs s cs' D'.toList ∧ (∀ c ∈ D'.toList, c.oneCell' = true) ∧ D'.size = D.size
  | [], pv, cs, cs', D, hp, hr, hc, h1, h => by
    simp only [List.map_nil, List.map_eq_nil_iff] at hp
    subst hp
    simp only [fillA, Option.some.injEq] at h
    subst h
    exact ⟨D, rfl, hc, h1, rfl⟩
  | (i, x) :: parts, pv, cs, cs', D, hp, hr, hc, h1, h => by
    cases pv with
    | nil => simp at hp
    | cons q pv =>
      obtain ⟨j, v⟩ := q
      simp only [List.map_cons, List.cons.injEq] at hp
      obtain ⟨rfl, hp⟩ := hp
      simp only [List.map_cons, RAs, List.cons.injEq] at hr
      obtain ⟨v', r, ⟨rfl, rfl⟩, hx, hr⟩ := hr
      simp only [fillA] at h
      split at h
      · cases h
      · rename_i off size hpl
        split at h
        · rename_i hcnd
          obtain ⟨e1, e2, e3⟩ := hcnd
          have hxu : x ≠ .undef := by rintro rfl; simp [AV.stor] at e3
          have hcx := RA_cells hx hxu
          have hl := RAs_length hcx
          have hlc := RAs_length hc
          simp only [Array.length_toList] at hl hlc
          have hstep := fill_step v D off
          have hR : RAs s (setR cs off x.cells) (v.cells.zipIdx.foldl (fun cs (c : Value × Nat) => cs.setIfInBounds (off + c.2) c.1) D).toList := by
            rw [hstep]; exact RAs_setR off hc hcx
          have hone : ∀ c ∈ (v.cells.zipIdx.foldl (fun cs (c : Value × Nat) => cs.setIfInBounds (off + c.2) c.1) D).toList, c.oneCell' = true := by
            intro c hm
            rw [hstep] at hm
            rcases setR_mem _ _ _ c hm with h2 | h2
            · exact h1 c h2
            · exact stor_oneCell hx e3 c h2
          obtain ⟨D', f1, f2, f3, f4⟩ := fillA_ok hp hr hR hone h
          refine ⟨D', ?_, f2, f3, ?_⟩
          · simp only [Instr.fill, hpl]
            rw [if_neg (by simp; omega)]
            exact f1
          · rw [f4, ← Array.length_toList, hstep, setR_length, Array.length_toList]
        · cases h

theorem evBuild_ok {s : St} (hs : WF s) {t : TypeId} {parts : List (Nat × AV)} {pv : Array (Nat × Value)} {av : AV}
    (hp : pv.toList.map (·.1) = parts.map (·.1)) (hr : RAs s (parts.map (·.2)) (pv.toList.map (·.2))) (h : evBuild P t parts = some av) : Sim P s (Instr.build t pv) av s.H := by
  unfold evBuild at h
  simp only [Option.bind_eq_some_iff] at h
  obtain ⟨z, hz, h⟩ := h
  split at h
  · cases h
  · rename_i hz0
    simp only [Option.bind_eq_some_iff] at h
    obtain ⟨pl, hpl, h⟩ := h
    obtain ⟨v, hv, hzv⟩ := tzero_run hz
    have hRz : RA s z v := RA_zero hzv
    obtain ⟨cs, rfl, hc, h1⟩ := shape_agg hRz hz0
    have hfin : ∀ place, ∀ cs', fillA place z.cells parts = some cs' → ∃ D', Instr.fill place cs.toArray pv.toList = some D' ∧ RA s (mkAgg cs') (.agg D') := by
      intro place cs' hf
      obtain ⟨D', f1, f2, f3, f4⟩ := fillA_ok (D := cs.toArray) hp hr (by simpa using hc) (by simpa using h1) hf
      refine ⟨D', f1, RA_mkAgg ?_⟩
      simp only [RA]
      refine ⟨?_, D'.toList, rfl, f2, f3⟩
      rintro rfl
      have := RAs_length f2
      have h2 := RAs_length hc
      simp at this
      have h3 : cs.length = 0 := by simpa [this] using f4.symm
      apply hz0
      have h4 := RA_shape hRz (by rintro rfl; simp [AV.shape] at hz0)
      rw [← h4]
      simp [vshape, h3]
    cases hi : P.info? t with
    | none => rw [hi] at hv; cases hv
    | some it =>
      rw [hi] at hv
      simp only [Option.bind_some] at hv
      unfold tplaces at hpl
      split at hpl
      · rename_i fs hu
        simp only [Option.map_eq_some_iff] at hpl
        obtain ⟨ps, hps, rfl⟩ := hpl
        simp only [Option.map_eq_some_iff] at h
        obtain ⟨cs', hf, rfl⟩ := h
        obtain ⟨D', f1, f2⟩ := hfin _ _ hf
        refine Sim.same hs (v := .agg D') (run_build s.w t pv D' ?_) f2
        unfold Program.built
        rw [hi, hu]
        simp only [hv, hps]
        simpa [Value.cells] using f1
      · rename_i n e hu
        simp only [Option.map_eq_some_iff] at hpl
        obtain ⟨sz, hsz, rfl⟩ := hpl
        simp only [Option.map_eq_some_iff] at h
        obtain ⟨cs', hf, rfl⟩ := h
        obtain ⟨D', f1, f2⟩ := hfin _ _ hf
        refine Sim.same hs (v := .agg D') (run_build s.w t pv D' ?_) f2
        unfold Program.built
        rw [hi, hu]
        unfold tsz at hsz
        simp only [Option.map_eq_some_iff] at hsz
        obtain ⟨ie, hie, rfl⟩ := hsz
        simp only [hv, hie]
        simpa [Value.cells] using f1
      · cases hpl

/-! values as data -/
def Zf (s : St) (l : List Nat) (k : Nat) : Prop := s.Z k ∨ ∃ b ∈ l, s.ι b = k
theorem Zf_sub {s : St} {l l' : List Nat} (h : ∀ b ∈ l, b ∈ l') : ∀ k, Zf s l k → Zf s l' k := fun k hk => hk.imp id fun ⟨b, hb, he⟩ => ⟨b, h b hb, he⟩
theorem RP_Zf {s : St} {l l' : List Nat} (h : ∀ b ∈ l, b ∈ l') {x : PV} {v : Value} (hx : RP s.w (Zf s l) x v) : RP s.w (Zf s l') x v :=
  RP_mono (Zf_sub h) (fun _ _ => rfl) x v hx
theorem RP_Zf0 {s : St} (l : List Nat) {x : PV} {v : Value} (hx : RP s.w s.Z x v) : RP s.w (Zf s l) x v :=
  RP_mono (fun _ h => .inl h) (fun _ _ => rfl) x v hx

theorem frzL_ok {s : St} {f : TypeId → AV → Option PV} {idf : AV → List Nat} (hf : ∀ t x y v, f t x = some y → RA s x v → RP s.w (Zf s (idf x)) y v) :
    ∀ {xs : List AV} {ts : List TypeId} {ys : List PV} {cs : List Value}, frzL f xs ts = some ys → RAs s xs cs → RPs s.w (Zf s (xs.flatMap idf)) ys cs
  | [], ts, ys, cs, h, hr => by
    simp only [frzL, Option.some.injEq] at h
    subst h
    simpa only [RAs, RPs] using hr
  | x :: xs, ts, ys, cs, h, hr => by
    simp only [frzL, Option.bind_eq_some_iff, Option.map_eq_some_iff] at h
    obtain ⟨y, hy, r, hr', rfl⟩ := h
    simp only [RAs] at hr
    obtain ⟨v, q, rfl, h1, h2⟩ := hr
    simp only [RPs]
    have h3 := hf _ x y v hy h1
    have h4 := frzL_ok hf hr' h2
    exact ⟨v, q, rfl, RP_Zf (by simp; intro b hb; exact .inl hb) h3, RPs_mono (Zf_sub (by
      intro b hb
      simp only [List.flatMap_cons, List.mem_append]
      exact .inr hb)) (fun _ _ => rfl) _ _ h4⟩

def noDeep : AV → Bool
  | .agg _ | .fn _ _ | .tup _ | .undef | .yld _ | .it _ | .stm _ _ _ => false
  | _ => true

theorem frz_ok {s : St} (hs : WF s) : ∀ (n : Nat) (t : TypeId) (x : AV) (y : PV) (v : Value), frzN P s.H n t x = some y → RA s x v → RP s.w (Zf s (ids n x)) y v := by
  intro n
  induction n with
  | zero =>
      intro t x y v h hr
      cases x with
      | agg xs => simp [frzN] at h
      | fn f caps => simp [frzN] at h
      | tup xs => simp [frzN] at h
      | undef => simp [frzN] at h
      | yld b => simp [frzN] at h
      | it b => simp [frzN] at h
      | stm b g j => simp [frzN] at h
      | _ => exact leaf 0 t _ y v h hr rfl
  | succ n ih =>
      intro t x y v h hr
      cases x with
      | agg xs =>
        simp only [frzN, Option.map_eq_some_iff] at h
        obtain ⟨ys, hys, rfl⟩ := h
        simp only [RA] at hr
        obtain ⟨hn, cs, rfl, h1, h2⟩ := hr
        have h3 := frzL_ok (fun t x y v hh hr => ih t x y v hh hr) hys h1
        simp only [RP, ids]
        refine ⟨?_, cs, rfl, h3, h2⟩
        rintro rfl
        have h4 := RPs_length h3
        have h5 := RAs_length h1
        simp at h4
        subst h4
        simp at h5
        exact hn (by simpa using h5.symm)
      | fn f caps =>
        simp only [frzN, Option.map_eq_some_iff] at h
        obtain ⟨ys, hys, rfl⟩ := h
        simp only [RA] at hr
        obtain ⟨cs, rfl, h1⟩ := hr
        have h3 := frzL_ok (fun t x y v hh hr => ih t x y v hh hr) hys h1
        simp only [RP, ids]
        exact ⟨cs, rfl, h3⟩
      | tup xs => simp [frzN] at h
      | undef => simp [frzN] at h
      | yld b => simp [frzN] at h
      | it b => simp [frzN] at h
      | stm b g j => simp [frzN] at h
      | _ => exact leaf (n + 1) t _ y v h hr rfl
where
  leaf (n : Nat) (t : TypeId) (x : AV) (y : PV) (v : Value) (h : frzN P s.H n t x = some y) (hr : RA s x v) (hx : noDeep x = true) : RP s.w (Zf s (ids n x)) y v := by
    cases x with
    | p z =>
      simp only [frzN, Option.some.injEq] at h; subst h; simp only [RA] at hr; exact RP_Zf0 _ hr
    | nsl =>
      simp only [frzN, Option.map_eq_some_iff] at h
      obtain ⟨e, _, rfl⟩ := h
      simp only [RA] at hr
      subst hr
      simp only [RP]
      exact ⟨none, 0, 0, rfl, rfl, Nat.le_refl _, .inl ⟨rfl, rfl⟩⟩
    | ref b g off len ex =>
      simp only [frzN] at h
      split at h
      · rename_i l g' sh xs hb
        split at h
        · rename_i hc
          obtain ⟨rfl, hlen⟩ := hc
          simp only [Option.some.injEq] at h
          subst h
          simp only [RA] at hr
          obtain ⟨a, cap, g0, sh0, rfl, hk, _, ha⟩ := hr
          rw [kd_of_arr hb] at hk
          simp only [Option.some.injEq, Kd.arr.injEq] at hk
          obtain ⟨rfl, rfl⟩ := hk
          obtain ⟨⟨ao, rfl, a1⟩, a2, a3, a4⟩ := ha rfl
          have hB := hs.blk b _ hb
          simp only [RB] at hB
          obtain ⟨c, e, lo, hi, h1, _, h3, _, _⟩ := hB
          simp only [RP]
          refine ⟨_, len, cap, rfl, by simp; omega, a2, .inr ⟨s.ι b, ao, rfl, .inr ⟨b, by simp [ids], rfl⟩, ?_⟩⟩
          by_cases hcap : cap = 0
          · have : (xs.drop off).take len = [] := by
              have : len = 0 := by omega
              simp [this]
            rw [this]; simp [RM]
          · rw [a1.resolve_right hcap]
            have h5 : RM s.w (Zf s (ids n (.ref b g' off len ex))) sh xs (s.ι b) (s.β b) := RM_mono (fun _ h => .inl h) (fun _ _ => rfl) sh xs _ _ rfl h3
            have := RM_sub h5 off (off + len)
            rw [List.drop_take, show off + len - off = len by omega] at this
            exact this
        · cases h
      · cases h
    | vptr b off =>
      simp only [frzN] at h
      split at h
      · rename_i l z hb
        cases h
        simp only [RA] at hr
        obtain ⟨_, rfl⟩ := hr
        have hB := hs.blk b _ hb
        simp only [RB] at hB
        obtain ⟨u, e, lo, hi, h1, h2, _, _⟩ := hB
        simp only [RA] at h1
        simp only [RP]
        exact ⟨s.ι b, 0, by simp, .inr ⟨b, by simp [ids], rfl⟩, u, RP_Zf0 _ h1, RP_shape h1, cellsAt_self h2⟩
      · cases h
    | eptr b g i off =>
      simp only [frzN] at h
      split at h
      · rename_i l g' sh xs hb
        split at h
        · rename_i hg
          subst hg
          simp only [Option.map_eq_some_iff] at h
          obtain ⟨x, hx, rfl⟩ := h
          simp only [RA] at hr
          obtain ⟨ad, g0, sh0, rfl, hk, _, had⟩ := hr
          rw [kd_of_arr hb] at hk
          simp only [Option.some.injEq, Kd.arr.injEq] at hk
          obtain ⟨rfl, rfl⟩ := hk
          have hade := had rfl
          subst hade
          have hB := hs.blk b _ hb
          simp only [RB] at hB
          obtain ⟨c, e, lo, hi, h1, _, h3, _, _⟩ := hB
          obtain ⟨_, u, h4, h5, h6⟩ := RM_iff.1 h3 i x hx
          simp only [RP]
          exact ⟨s.ι b, s.β b + i * stride sh, by rw [Nat.add_assoc], .inr ⟨b, by simp [ids], rfl⟩, u, RP_Zf0 _ h4, h5, h6⟩
        · cases h
      · cases h
    | map b =>
      simp only [frzN] at h
      split at h
      · rename_i l g ks vs hb
        simp only [Option.map_eq_some_iff] at h
        obtain ⟨ws, hws, rfl⟩ := h
        have e := allP_some hws
        subst e
        simp only [RA] at hr
        obtain ⟨_, rfl⟩ := hr
        have hB := hs.blk b _ hb
        simp only [RB] at hB
        obtain ⟨es, clock, h1, h2, h3, h4, _⟩ := hB
        have h3' := RAs_map_p.1 h3
        simp only [RP]
        exact ⟨s.ι b, es, clock, rfl, .inr ⟨b, by simp [ids], rfl⟩, h1, RPs_mono (fun _ h => .inl h) (fun _ _ => rfl) _ _ h2, RPs_mono (fun _ h => .inl h) (fun _ _ => rfl) _ _ h3', h4⟩
      · cases h
    | _ => simp [noDeep] at hx

end Go.Ev
end
section
/- NEW SLICES, CONVERSIONS, NUMBERS, COMPARISONS. -/
namespace Go.Ev
variable {P : Program}

/-- Cells that hold elements, one after another. -/
def Row (w : World) (Z : Nat → Prop) (sh : Nat) (xs : List PV) (c : List Value) : Prop :=
  ∀ (i : Nat) (x : PV), xs[i]? = some x → x.stor = true ∧ ∃ u, RP w Z x u ∧ vshape u = sh ∧ ∀ (j : Nat) (v : Value), u.cells.toList[j]? = some v → c[i * stride sh + j]? = some v

theorem Row.arr {w : World} {Z : Nat → Prop} {sh : Nat} {xs : List PV} {c : Array Value} (h : Row w Z sh xs c.toList) :
    ∀ (i : Nat) (x : PV), xs[i]? = some x → x.stor = true ∧ ∃ u, RP w Z x u ∧ vshape u = sh ∧ ∀ (j : Nat) (v : Value), u.cells.toList[j]? = some v → c[i * stride sh + j]? = some v := by
  intro i x hx
  obtain ⟨ht, u, h1, h2, h3⟩ := h i x hx
  exact ⟨ht, u, h1, h2, fun j v hv => by have := h3 j v hv; rwa [Array.getElem?_toList] at this⟩

theorem cells_stride {w : World} {Z : Nat → Prop} {x : PV} {u : Value} {sh : Nat} (h : RP w Z x u) (hs : vshape u = sh) : u.cells.size = stride sh := by
  rw [RP_size h, ← RP_shape h, hs]

theorem Row_set {w : World} {Z : Nat → Prop} {sh : Nat} {xs : List PV} {c : List Value} (h : Row w Z sh xs c) {i : Nat} {z : PV} {v : Value} (hz : RP w Z z v) (hst : z.stor = true) (hs : vshape v = sh)
    (hi : i < xs.length) (hl : xs.length * stride sh ≤ c.length) : Row w Z sh (xs.set i z) (setR c (i * stride sh) v.cells.toList) := by
  intro j x hx
  have hvs := cells_stride hz hs
  have hb : i * stride sh + stride sh ≤ c.length := by
    have := Nat.mul_le_mul_right (stride sh) hi
    rw [Nat.succ_mul] at this
    omega
  rw [List.getElem?_set] at hx
  split at hx
  · rename_i e
    subst e
    simp only [Option.some.injEq] at hx
    subst hx
    refine ⟨hst, v, hz, hs, fun m u hu => ?_⟩
    have hm := (List.getElem?_eq_some_iff.1 hu).1
    simp at hm
    rw [setR_get, if_pos (by simp; omega), show i * stride sh + m - i * stride sh = m by omega]
    exact hu
  · rename_i e
    obtain ⟨ht, u, h1, h2, h3⟩ := h j x hx
    refine ⟨ht, u, h1, h2, fun m q hq => ?_⟩
    have hm := (List.getElem?_eq_some_iff.1 hq).1
    have hus := cells_stride h1 h2
    simp at hm
    have hsep : i * stride sh + stride sh ≤ j * stride sh ∨ j * stride sh + stride sh ≤ i * stride sh := by
      rcases Nat.lt_or_gt_of_ne e with h9 | h9
      · left
        have := Nat.mul_le_mul_right (stride sh) h9
        rwa [Nat.succ_mul] at this
      · right
        have := Nat.mul_le_mul_right (stride sh) h9
        rwa [Nat.succ_mul] at this
    rw [setR_get, if_neg (by simp; omega)]
    exact h3 m q hq

theorem Row_zeros {w : World} {Z : Nat → Prop} {sh n : Nat} {z : PV} {v : Value} (hz : RP w Z z v) (hst : z.stor = true) (hs : vshape v = sh) (k : Nat) (hk : n * stride sh ≤ k) :
    Row w Z sh (List.replicate n z) (((Array.range k).map (v.cells[· % v.cells.size]!)).toList) := by
  intro i x hx
  have hx' := List.getElem?_eq_some_iff.1 hx
  obtain ⟨hi, hx2⟩ := hx'
  simp at hi hx2
  subst hx2
  have hvs := cells_stride hz hs
  refine ⟨hst, v, hz, hs, fun j q hq => ?_⟩
  have hj := (List.getElem?_eq_some_iff.1 hq).1
  simp at hj
  have hb : i * stride sh + stride sh ≤ n * stride sh := by
    have := Nat.mul_le_mul_right (stride sh) hi
    rwa [Nat.succ_mul] at this
  rw [Array.getElem?_toList, Array.getElem?_map]
  have hlt : i * stride sh + j < k := by omega
  rw [Array.getElem?_range]
  simp only [hlt, if_true, Option.map_some]
  rw [hvs, Nat.add_comm, Nat.add_mul_mod_self_right, Nat.mod_eq_of_lt (by omega)]
  congr 1
  rw [getElem!_pos v.cells j hj]
  have := (List.getElem?_eq_some_iff.1 hq).2
  simpa using this

theorem fillS_ok {s : St} {sh : Nat} : ∀ {parts : List (Nat × AV)} {pv : List (Nat × Value)} {xs xs' : List PV} {D : Array Value},
    pv.map (·.1) = parts.map (·.1) → RAs s (parts.map (·.2)) (pv.map (·.2)) → Row s.w s.Z sh xs D.toList → xs.length * stride sh ≤ D.size → fillS sh xs parts = some xs' →
    ∃ D', Instr.fill (fun i => some (i * stride sh, stride sh)) D pv = some D' ∧ Row s.w s.Z sh xs' D'.toList ∧ D'.size = D.size ∧ xs'.length = xs.length
  | [], pv, xs, xs', D, hp, hr, hc, hl, h => by
    simp only [List.map_nil, List.map_eq_nil_iff] at hp
    subst hp
    simp only [fillS, Option.some.injEq] at h
    subst h
    exact ⟨D, rfl, hc, rfl, rfl⟩
  | (i, x) :: parts, pv, xs, xs', D, hp, hr, hc, hl, h => by
    cases pv with
    | nil => simp at hp
    | cons q pv =>
      obtain ⟨j, v⟩ := q
      simp only [List.map_cons, List.cons.injEq] at hp
      obtain ⟨rfl, hp⟩ := hp
      simp only [List.map_cons, RAs, List.cons.injEq] at hr
      obtain ⟨v', r, ⟨rfl, rfl⟩, hx, hr⟩ := hr
      cases x with
      | p z =>
        simp only [fillS] at h
        split at h
        · rename_i hcnd
          obtain ⟨e1, e2, e3⟩ := hcnd
          simp only [RA] at hx
          have hsh : vshape v = sh := by rw [RP_shape hx, e1]
          have hvs := cells_stride hx hsh
          have hb : j * stride sh + stride sh ≤ D.size := by
            have := Nat.mul_le_mul_right (stride sh) e2
            rw [Nat.succ_mul] at this
            omega
          have hstep := fill_step v D (j * stride sh)
          have hR : Row s.w s.Z sh (xs.set j z) (v.cells.zipIdx.foldl (fun cs (c : Value × Nat) => cs.setIfInBounds (j * stride sh + c.2) c.1) D).toList := by
            rw [hstep]; exact Row_set hc hx e3 hsh e2 (by simpa using hl)
          have hsz : (v.cells.zipIdx.foldl (fun cs (c : Value × Nat) => cs.setIfInBounds (j * stride sh + c.2) c.1) D).size = D.size := by
            rw [← Array.length_toList, hstep, setR_length, Array.length_toList]
          obtain ⟨D', f1, f2, f3, f4⟩ := fillS_ok (D := v.cells.zipIdx.foldl (fun cs (c : Value × Nat) => cs.setIfInBounds (j * stride sh + c.2) c.1) D) hp hr hR (by rw [hsz]; simpa using hl) h
          refine ⟨D', ?_, f2, f3.trans hsz, by simpa using f4⟩
          simp only [Instr.fill]
          rw [if_neg (by simp; omega)]
          exact f1
        · cases h
      | _ => simp [fillS] at h

theorem frz_stor {P : Program} {H : Heap} {e : TypeId} {v : Value} {z : AV} {y : PV} (hz : zeroAV v = some z) (h : frzN P H 4 e z = some y) : y.stor = true := by
  have key : ∀ v, frzN P H 4 e (ofLeaf v) = some y → y.stor = true := by
    intro v h
    unfold ofLeaf at h
    split at h <;> simp only [frzN, Option.some.injEq, Option.map_eq_some_iff] at h <;> first | (subst h; rfl) | (obtain ⟨_, _, rfl⟩ := h; rfl) | (cases h; done)
  unfold zeroAV at hz
  split at hz
  · split at hz
    · simp only [Option.some.injEq] at hz
      subst hz
      unfold mkAgg at h
      split at h
      · simp only [frzN, Option.some.injEq] at h; subst h; rfl
      · simp only [frzN, Option.map_eq_some_iff] at h; obtain ⟨_, _, rfl⟩ := h; rfl
    · cases hz
  · simp only [Option.some.injEq] at hz
    subst hz
    exact key _ h

/-- A zero element, as data. -/
theorem zero_elem {s : St} (hs : WF s) {e : TypeId} {z : AV} {y : PV} (hz : tzero P e = some z) (hf : frzN P s.H 4 e z = some y) (hi : ids 4 z = []) :
    ∃ v, (P.info? e).bind (·.zero) = some v ∧ RP s.w s.Z y v ∧ y.stor = true := by
  obtain ⟨v, hv, hzv⟩ := tzero_run hz
  refine ⟨v, hv, ?_, frz_stor hzv hf⟩
  have := frz_ok hs 4 e z y v hf (RA_zero hzv)
  rw [hi] at this
  exact RP_mono (fun k hk => hk.resolve_right (by simp)) (fun _ _ => rfl) y v this

theorem buildSlice_ok {s : St} (hs : WF s) {t : TypeId} {n : Nat} {parts : List (Nat × AV)} {pv : Array (Nat × Value)} {r : AV × Heap}
    (hp : pv.toList.map (·.1) = parts.map (·.1)) (hr : RAs s (parts.map (·.2)) (pv.toList.map (·.2))) (h : evBuildSlice P t n parts s.H = some r) :
    Sim P s (Instr.buildSlice t n pv) r.1 r.2 := by
  unfold evBuildSlice at h
  simp only [Option.bind_eq_some_iff] at h
  obtain ⟨e, he, h⟩ := h
  obtain ⟨e, sh⟩ := e
  obtain ⟨hu, hsh⟩ := telem_run he
  split at h
  · rename_i hn0
    subst hn0
    split at h
    · rename_i hps
      cases h
      have hpe : parts = [] := by simpa using hps
      subst hpe
      have hpv : pv = #[] := by
        have : pv.toList = [] := by simpa using hp
        rw [← Array.toList_eq_nil_iff]; exact this
      subst hpv
      obtain ⟨k1, k2, k3⟩ := alloc_arr hs #[] e sh [] (by intro i x hx; simp at hx) (by simp)
      refine ⟨_, s.add (.cells #[] e) (.arr true 0 sh []), ?_, rfl, k1, k2, k3 0 0 (Nat.le_refl _) (by simp)⟩
      simp only [Instr.buildSlice, Sem.run_bind, run_underlying' hu, Result.andThen_ok, tsh_size hsh]
      rw [if_neg (by omega)]
      simp only [Nat.zero_mul, if_true, Sem.run_bind, Sem.run_pure, Result.andThen_ok, Instr.fill, show Array.range 0 = #[] from rfl, Array.map_empty, newRow, run_newObj]
      rfl
    · cases h
  split at h
  · rename_i hn0 hc1
    have hc2 : 0 < n := Nat.pos_of_ne_zero hn0
    replace hc1 : n * stride sh ≤ 2 ^ 24 := hc1
    simp only [Option.bind_eq_some_iff] at h
    obtain ⟨z, hz, y, hy, h⟩ := h
    split at h
    · rename_i hys
      simp only [Option.map_eq_some_iff] at h
      obtain ⟨xs, hxs, rfl⟩ := h
      obtain ⟨v, hv, hR, hst⟩ := zero_elem hs hz hy hys.2
      have hvs : vshape v = sh := by rw [RP_shape hR, hys.1]
      have hpos := stride_pos sh
      have hrow := Row_zeros (n := n) hR hst hvs (n * stride sh) (Nat.le_refl _)
      obtain ⟨D', f1, f2, f3, f4⟩ := fillS_ok hp hr hrow (by simp) hxs
      obtain ⟨k1, k2, k3⟩ := alloc_arr hs D' e sh xs f2.arr (by rw [f4, f3]; simp)
      refine ⟨_, s.add (.cells D' e) (.arr true 0 sh xs), ?_, rfl, k1, k2, k3 n n (Nat.le_refl _) (by rw [f3]; simp)⟩
      have hne : n * stride sh ≠ 0 := by
        have := Nat.mul_pos hc2 hpos
        omega
      simp only [Instr.buildSlice, Sem.run_bind, run_underlying' hu, Result.andThen_ok, tsh_size hsh]
      rw [if_neg (by omega)]
      rw [if_neg hne]
      simp only [Sem.run_bind, run_zeroValue hv, Result.andThen_ok, Sem.run_pure, f1, newRow, run_newObj]
      rfl
    · cases h
  · cases h

theorem makeSlice_ok {s : St} (hs : WF s) {t : TypeId} {l c : AV} {vl vc : Value} {r : AV × Heap} (hl : RA s l vl) (hc : RA s c vc) (h : evMakeSlice P t l c s.H = some r) :
    Sim P s (Instr.makeSlice t vl vc) r.1 r.2 := by
  unfold evMakeSlice at h
  split at h
  · rename_i l c
    simp only [RA, RP] at hl hc
    subst hl; subst hc
    simp only [Option.bind_eq_some_iff] at h
    obtain ⟨e, he, h⟩ := h
    obtain ⟨e, sh⟩ := e
    obtain ⟨hu, hsh⟩ := telem_run he
    split at h
    · rename_i hcnd
      obtain ⟨c1, c2, c3, c4⟩ := hcnd
      simp only [Option.bind_eq_some_iff] at h
      obtain ⟨z, hz, y, hy, h⟩ := h
      split at h
      · rename_i hys
        cases h
        obtain ⟨v, hv, hR, hst⟩ := zero_elem hs hz hy hys.2
        have hvs : vshape v = sh := by rw [RP_shape hR, hys.1]
        have hpos := stride_pos sh
        have hlc : l.toNat ≤ c.toNat := by omega
        have hrow := Row_zeros (n := l.toNat) hR hst hvs (c.toNat * stride sh) (Nat.mul_le_mul_right _ hlc)
        cases hi : P.info? e with
        | none => rw [hi] at hv; cases hv
        | some ie =>
          have hb : (P.bytesOf e : Int) = ie.bytes := by simp [Program.bytesOf, hi]
          rw [hb] at c4
          have hw1 : IntKind.i64.wrap l = l := by
            simp only [IntKind.wrap, IntKind.bits, IntKind.signed]; simp; omega
          have hw2 : IntKind.i64.wrap c = c := by
            simp only [IntKind.wrap, IntKind.bits, IntKind.signed]; simp; omega
          have hbytes : ¬ ((ie.bytes : Int) * c > 2 ^ 48) := by rw [Int.mul_comm]; omega
          have hti : (typeInfo e).run P s.w = .ok ie s.w := by simp [typeInfo, hi]
          by_cases h0 : c.toNat * stride sh = 0
          · have hc0 : c.toNat = 0 := by
              rcases Nat.mul_eq_zero.1 h0 with h1 | h1
              · exact h1
              · omega
            have hl0 : l.toNat = 0 := by omega
            obtain ⟨k1, k2, k3⟩ := alloc_arr hs (((Array.range (c.toNat * stride sh)).map ((#[] : Array Value)[· % (#[] : Array Value).size]!))) e sh (List.replicate l.toNat y) (by rw [hl0]; intro i x hx; simp at hx) (by rw [hl0]; simp)
            refine ⟨_, s.add (.cells _ e) (.arr true 0 sh (List.replicate l.toNat y)), ?_, rfl, k1, k2, k3 l.toNat c.toNat hlc (by simp)⟩
            simp only [Instr.makeSlice, Sem.run_bind, run_underlying' hu, Result.andThen_ok, asInt, asIntOf, Sem.run_pure, hti, hw1, hw2]
            rw [if_neg (by simp; omega)]
            simp only [Sem.run_bind, Sem.run_pure, Result.andThen_ok, run_askRoom, tsh_size hsh]
            rw [if_pos h0]
            simp only [Sem.run_bind, Sem.run_pure, Result.andThen_ok, newRow, run_newObj]
            rfl
          · obtain ⟨k1, k2, k3⟩ := alloc_arr hs ((Array.range (c.toNat * stride sh)).map (v.cells[· % v.cells.size]!)) e sh (List.replicate l.toNat y) hrow.arr (by simp; exact Nat.mul_le_mul_right _ hlc)
            refine ⟨_, s.add (.cells _ e) (.arr true 0 sh (List.replicate l.toNat y)), ?_, rfl, k1, k2, k3 l.toNat c.toNat hlc (by simp)⟩
            simp only [Instr.makeSlice, Sem.run_bind, run_underlying' hu, Result.andThen_ok, asInt, asIntOf, Sem.run_pure, hti, hw1, hw2]
            rw [if_neg (by simp; omega)]
            simp only [Sem.run_bind, Sem.run_pure, Result.andThen_ok, run_askRoom, tsh_size hsh]
            rw [if_neg h0]
            simp only [Sem.run_bind, run_zeroValue hv, Sem.run_pure, Result.andThen_ok, newRow, run_newObj]
            rfl
      · cases h
    · cases h
  · cases h

end Go.Ev
end
