/- The abstract machine's operations, types reckoned out, and how they come from the model's. -/
import Derived.Test.YtncpdahappmhkaaAmB
import Derived.Laws.Entries
import Derived.Laws.StructEq
import Derived.Laws.Append
import Derived.Laws.BytesString
import Derived.Lib.ConvBytes
import Derived.Lib.SliceRun
import Derived.Laws.Pointers
import Derived.Laws.Small
namespace Go.Proofs.Ytncpdahappmhkaa.Am
open Go
set_option linter.unusedVariables false
set_option linter.unusedSimpArgs false

abbrev Env := List (Nat × Value)
def look : Env → Nat → Option Value
  | [], _ => none
  | (t, v) :: e, n => if t = n then some v else look e n

def plain1 : Value → Bool
  | .bool _ => true
  | .int _ _ => true
  | .string _ => true
  | .nilFunc => true
  | .nilIface => true
  | .pointer none => true
  | .slice none 0 0 => true
  | _ => false
def plain : Value → Bool
  | .agg cs => cs.toList.all plain1
  | .tuple cs => cs.toList.all plain1
  | v => plain1 v

def ev (e : Env) : Operand → Option Value
  | .tmp t => look e t
  | .const v => if plain v = true then some v else none
  | .func f => some (.func (.func f) #[] #[])
  | .global _ => none
def evs (e : Env) : List Operand → Option (List Value)
  | [] => some []
  | x :: xs => match ev e x with
    | some v => match evs e xs with
      | some vs => some (v :: vs)
      | none => none
    | none => none

/-- What is compared of two aggregates: cells, or what two single values are. -/
inductive EqK where
  | one (k : Nat)
  | nilP
  | nilV
  | agg (offs : List (Nat × Nat))

inductive IOp where
  | mov (x : Operand)
  | pick (c a b : Operand)
  | new (z : List Value)
  | box (x : Operand)
  | build (z : List Value) (ps : List (Nat × Nat × Operand))
  | bsl (es len : Nat) (z : List Value) (ps : List (Nat × Nat × Operand))
  | ld1 (x : Operand)
  | ldN (n : Nat) (x : Operand)
  | st (n : Nat) (a x : Operand)
  | nck (x : Operand)
  | nckM (name : String) (ts : List Nat) (x : Operand)
  | bin (op : BinOp) (x y : Operand)
  | eqq (neg : Bool) (k : EqK) (x y : Operand)
  | un (op : UnOp) (x : Operand)
  | cvI (k : IntKind) (x : Operand)
  | cvS (x : Operand)
  | cvB (x : Operand)
  | cvY (x : Operand)
  | mkI (t : TypeId) (x : Operand)
  | mkF (fn : Fn) (fs cs : List Operand)
  | mkS (es bytes : Nat) (z : List Value) (l c : Operand)
  | slS (x : Operand) (lo hi : Option Operand)
  | slV (es : Nat) (x : Operand) (lo hi mx : Option Operand)
  | slA (n es : Nat) (x : Operand) (lo hi mx : Option Operand)
  | fa (off : Nat) (x : Operand)
  | fd (off : Nat) (n : Option Nat) (x : Operand)
  | iaV (es : Nat) (x i : Operand)
  | iaA (n es : Nat) (x i : Operand)
  | ixS (x i : Operand)
  | ixA (n es : Nat) (agg : Bool) (x i : Operand)
  | ext (x : Operand) (k : Nat)
  | lenS (x : Operand)
  | lenV (x : Operand)
  | lenC (n : Nat)
  | mm (isMin : Bool) (x y : Operand)
  | app (es bytes : Nat) (x y : Operand)
  | cpy (es : Nat) (x y : Operand)
  | clr (es : Nat) (z : List Value) (x : Operand)
  | bad
  | capV (x : Operand)
  | apz (z : List Value) (bytes : Nat) (x y : Operand)

/-- A new block: under the next name, or under a name that was set aside. -/
def H.mkb (h : H) (nm : Option Nat) (B : Blk) : Nat × H :=
  match nm with
  | none => (h.next, h.alloc B)
  | some n => (n, h.set n (some B))

def fillL (cells : List Value) : List (Nat × Nat × Value) → Option (List Value)
  | [] => some cells
  | (off, size, v) :: rest => if v.cells.toList.length = size ∧ off + size ≤ cells.length then fillL (splice cells off v.cells.toList) rest else none
def evp (e : Env) : List (Nat × Nat × Operand) → Option (List (Nat × Nat × Value))
  | [] => some []
  | (o, n, x) :: xs => match ev e x with
    | some v => match evp e xs with
      | some vs => some ((o, n, v) :: vs)
      | none => none
    | none => none
def zrep (z : List Value) : Nat → List Value
  | 0 => []
  | n + 1 => z ++ zrep z n

def eq1 : Nat → Value → Value → Option Bool
  | 0, .bool a, .bool b => some (a == b)
  | 1, .int k a, .int k' b => if k = k' then some (a == b) else none
  | 2, .string a, .string b => some (a.toList == b.toList)
  | _, _, _ => none
def eqL (x y : Array Value) : List (Nat × Nat) → Option Bool
  | [] => some true
  | (o, k) :: os => match x[o]? with
    | some a => match y[o]? with
      | some b => match eq1 k a b with
        | some c => match eqL x y os with
          | some d => some (c && d)
          | none => none
        | none => none
      | none => none
    | none => none
def eqNP : Value → Value → Option Bool
  | .pointer p, .pointer none => some p.isNone
  | _, _ => none
def eqNV : Value → Value → Option Bool
  | .slice p _ _, .slice none _ _ => some p.isNone
  | _, _ => none
def eqG (os : List (Nat × Nat)) : Value → Value → Option Bool
  | .agg x, .agg y => eqL x y os
  | _, _ => none
def eqV (k : EqK) (x y : Value) : Option Bool :=
  match k with
  | .one k => eq1 k x y
  | .nilP => eqNP x y
  | .nilV => eqNV x y
  | .agg os => eqG os x y

def binV (op : BinOp) (x y : Value) : Option Value :=
  match x, y with
  | .int k a, .int k' b =>
    match op with
    | .shl => if b < 0 then none else some (.int k (k.wrap (a * 2 ^ (min b.toNat k.bits))))
    | .shr => if b < 0 then none else some (.int k (a.fdiv (2 ^ (min b.toNat k.bits))))
    | _ => if k ≠ k' then none else
      match op with
      | .add => some (.int k (k.wrap (a + b)))
      | .sub => some (.int k (k.wrap (a - b)))
      | .mul => some (.int k (k.wrap (a * b)))
      | .quo => if b = 0 then none else some (.int k (k.wrap (a.tdiv b)))
      | .rem => if b = 0 then none else some (.int k (a.tmod b))
      | .and => some (.int k (k.wrap ((BitVec.ofInt k.bits a &&& BitVec.ofInt k.bits b).toNat : Nat)))
      | .or => some (.int k (k.wrap ((BitVec.ofInt k.bits a ||| BitVec.ofInt k.bits b).toNat : Nat)))
      | .xor => some (.int k (k.wrap ((BitVec.ofInt k.bits a ^^^ BitVec.ofInt k.bits b).toNat : Nat)))
      | .andNot => some (.int k (k.wrap ((BitVec.ofInt k.bits a &&& ~~~ BitVec.ofInt k.bits b).toNat : Nat)))
      | .eql => some (.bool (a == b))
      | .neq => some (.bool (a != b))
      | .lss => some (.bool (a < b))
      | .leq => some (.bool (a ≤ b))
      | .gtr => some (.bool (a > b))
      | .geq => some (.bool (a ≥ b))
      | _ => none
  | .string a, .string b =>
    match op with
    | .add => if a.size + b.size ≤ 1099511627776 then some (.string (a ++ b)) else none
    | .eql => some (.bool (a.toList == b.toList))
    | .neq => some (.bool !(a.toList == b.toList))
    | .lss => some (.bool (Op.bytesLess a.toList b.toList))
    | .leq => some (.bool (Op.bytesLess a.toList b.toList || a.toList == b.toList))
    | .gtr => some (.bool !(Op.bytesLess a.toList b.toList || a.toList == b.toList))
    | .geq => some (.bool !(Op.bytesLess a.toList b.toList))
    | _ => none
  | _, _ => none

def bytesL : List Value → ByteArray → Option ByteArray
  | [], s => some s
  | .int .u8 n :: vs, s => bytesL vs (s.push (UInt8.ofNat n.toNat))
  | _ :: _, _ => none

/-- A cut's bounds: below, above, and the end of the room (none: to the end of what there is). -/
def bnd (e : Env) : Option Operand → Option (Option Nat)
  | none => some none
  | some x => match ev e x with
    | some (.int _ i) => if 0 ≤ i then some (some i.toNat) else none
    | _ => none

/-- The source of an append or a copy: its cells, up to n elements (none: all). -/
def srcLen : Value → Option Nat
  | .slice _ n _ => some n
  | .string s => some s.size
  | _ => none
def srcCells (h : H) (es n : Nat) : Value → Option (List Value)
  | .slice (some a) _ _ => h.lds a (n * es)
  | .slice none _ _ => if n = 0 then some [] else none
  | .string s => if es = 1 then some (((s.extract 0 n).data.map fun b => Value.int .u8 b.toNat).toList) else none
  | _ => none

def appE (h : H) (nm : Option Nat) (es bytes : Nat) (x y : Value) : Option (Value × H) :=
  match srcLen y with
  | none => none
  | some n =>
    match srcCells h es n y with
    | none => none
    | some src =>
      match x with
      | .slice none 0 0 =>
        if n = 0 then some (.slice none 0 0, h)
        else if n * bytes ≤ 140737488355328 ∧ n ≤ 1099511627776 ∧ src.all (·.oneCell') = true then
          some (.slice (some ⟨(h.mkb nm ⟨src, es, false⟩).1, 0, none⟩) n (2 * n), (h.mkb nm ⟨src, es, false⟩).2)
        else none
      | .slice (some a) len c =>
        let need := len + n
        if need ≤ c / 2 then
          match h.sts ⟨a.block, a.off + len * es, none⟩ src with
          | some h2 => some (.slice (some a) need c, h2)
          | none => none
        else if need * bytes ≤ 140737488355328 ∧ need ≤ 1099511627776 ∧ src.all (·.oneCell') = true then
          match h.lds a (len * es) with
          | none => none
          | some old =>
            if c % 2 = 1 then
              some (.slice (some ⟨(h.mkb nm ⟨old ++ src, es, false⟩).1, 0, none⟩) need (2 * need), (h.mkb nm ⟨old ++ src, es, false⟩).2)
            else match nm, h.get a.block with
              | none, some B =>
                if B.ro = false ∧ B.es = es ∧ a.spot = none then
                  some (.slice (some ⟨h.next, 0, none⟩) need (2 * need), (h.set a.block none).alloc ⟨old ++ src, es, false⟩)
                else none
              | _, _ => none
        else none
      | _ => none

def opE (i : IOp) (e : Env) (h : H) (nm : Option Nat) : Option (Value × H) :=
  match i with
  | .mov x => match ev e x with | some v => some (v, h) | none => none
  | .pick c a b => match ev e c with
    | some (.bool true) => match ev e a with | some v => some (v, h) | none => none
    | some (.bool false) => match ev e b with | some v => some (v, h) | none => none
    | _ => none
  | .new z => some (.pointer (some ⟨(h.mkb nm ⟨z, 0, false⟩).1, 0, none⟩), (h.mkb nm ⟨z, 0, false⟩).2)
  | .box x => match ev e x with
    | some v => if v.cells.toList.all (·.oneCell') = true then (some (.pointer (some ⟨(h.mkb nm ⟨v.cells.toList, 0, false⟩).1, 0, none⟩), (h.mkb nm ⟨v.cells.toList, 0, false⟩).2)) else none
    | none => none
  | .build z ps => match evp e ps with
    | some l => match fillL z l with
      | some cs => some (.agg cs.toArray, h)
      | none => none
    | none => none
  | .bsl es len z ps => match evp e ps with
    | some l => match fillL z l with
      | some cs => if cs.all (·.oneCell') = true then (some (.slice (some ⟨(h.mkb nm ⟨cs, es, false⟩).1, 0, none⟩) len (2 * len + 1), (h.mkb nm ⟨cs, es, false⟩).2)) else none
      | none => none
    | none => none
  | .ld1 x => match ev e x with
    | some (.pointer (some a)) => match h.ld a with | some v => some (v, h) | none => none
    | _ => none
  | .ldN n x => match ev e x with
    | some (.pointer (some a)) => match h.lds a n with | some vs => some (.agg vs.toArray, h) | none => none
    | _ => none
  | .st n a x => match ev e a with
    | some (.pointer (some a)) => match ev e x with
      | some v => if v.cells.toList.length = n then (match h.sts a v.cells.toList with | some h2 => some (undef, h2) | none => none) else none
      | none => none
    | _ => none
  | .nck x => match ev e x with
    | some (.pointer (some a)) => some (.pointer (some a), h)
    | some (.iface t v) => some (.iface t v, h)
    | some (.func (.func f) x y) => some (.func (.func f) x y, h)
    | _ => none
  | .nckM name ts x => match ev e x with
    | some (.func (.method m) first cap) => if m = name then match (first[0]? : Option Value) with
      | some (.iface t u) => if ts.contains t = true then some (.func (.method m) first cap, h) else none
      | _ => none else none
    | _ => none
  | .bin op x y => match ev e x with
    | some a => match ev e y with
      | some b => match binV op a b with | some v => some (v, h) | none => none
      | none => none
    | none => none
  | .eqq neg k x y => match ev e x with
    | some a => match ev e y with
      | some b => match eqV k a b with | some v => some (.bool (v != neg), h) | none => none
      | none => none
    | none => none
  | .un op x => match op, ev e x with
    | .not, some (.bool b) => some (.bool (!b), h)
    | .neg, some (.int k n) => some (.int k (k.wrap (0 - n)), h)
    | .xor, some (.int k n) => some (.int k (k.wrap ((BitVec.ofInt k.bits (if k.signed then -1 else k.max) ^^^ BitVec.ofInt k.bits n).toNat : Nat)), h)
    | _, _ => none
  | .cvI k x => match ev e x with | some (.int _ n) => some (.int k (k.wrap n), h) | _ => none
  | .cvS x => match ev e x with | some (.string s) => some (.string s, h) | _ => none
  | .cvB x => match ev e x with
    | some (.slice none 0 0) => some (.string .empty, h)
    | some (.slice (some a) n _) => match h.lds a n with
      | some vs => match bytesL vs .empty with | some s => some (.string s, h) | none => none
      | none => none
    | _ => none
  | .cvY x => match ev e x with
    | some (.string s) => some (.slice (some ⟨(h.mkb nm ⟨(s.data.map fun b => Value.int .u8 b.toNat).toList, 1, false⟩).1, 0, none⟩) s.size (2 * s.size), (h.mkb nm ⟨(s.data.map fun b => Value.int .u8 b.toNat).toList, 1, false⟩).2)
    | _ => none
  | .mkI t x => match ev e x with | some v => some (.iface t v, h) | none => none
  | .mkF fn fs cs => match evs e fs with
    | some l => match evs e cs with | some m => some (.func fn l.toArray m.toArray, h) | none => none
    | none => none
  | .mkS es bytes z l c => match ev e l with
    | some (.int _ l) => match ev e c with
      | some (.int _ c) =>
        if 0 ≤ l ∧ l ≤ c ∧ c ≤ 1099511627776 ∧ bytes * c ≤ 281474976710656 then
          some (.slice (some ⟨(h.mkb nm ⟨zrep z c.toNat, es, false⟩).1, 0, none⟩) l.toNat (2 * c.toNat + 1), (h.mkb nm ⟨zrep z c.toNat, es, false⟩).2)
        else none
      | _ => none
    | _ => none
  | .slS x lo hi => match ev e x with
    | some (.string s) => match bnd e lo, bnd e hi with
      | some lo, some hi =>
        let b := hi.getD s.size
        let a := lo.getD 0
        if a ≤ b ∧ b ≤ s.size then some (.string (s.extract a b), h) else none
      | _, _ => none
    | _ => none
  | .slV es x lo hi mx => match ev e x with
    | some (.slice p n c) => match bnd e lo, bnd e hi, bnd e mx with
      | some lo, some hi, some mx =>
        let b := hi.getD n
        let a := lo.getD 0
        let m := mx.getD (c / 2)
        if a ≤ b ∧ b ≤ m ∧ m ≤ c / 2 ∧ (mx.isSome = true → hi.isSome = true) then
          match p with
          | none => if a = 0 ∧ b = 0 ∧ m = 0 ∧ n = 0 ∧ c = 0 then some (.slice none 0 0, h) else none
          | some p =>
            if c % 2 = 1 ∨ mx.isSome = true then
              some (.slice (some ⟨p.block, p.off + a * es, none⟩) (b - a) (2 * (m - a) + 1), h)
            else match h.get p.block with
              | some B => if B.es = es then some (.slice (some ⟨p.block, p.off + a * es, none⟩) (b - a) (2 * (m - a)), h) else none
              | none => none
        else none
      | _, _, _ => none
    | _ => none
  | .slA n es x lo hi mx => match ev e x with
    | some (.pointer (some p)) => match bnd e lo, bnd e hi, bnd e mx with
      | some lo, some hi, some mx =>
        let b := hi.getD n
        let a := lo.getD 0
        let m := mx.getD n
        if a ≤ b ∧ b ≤ m ∧ m ≤ n ∧ (mx.isSome = true → hi.isSome = true) then some (.slice (some ⟨p.block, p.off + a * es, none⟩) (b - a) (2 * (m - a) + 1), h) else none
      | _, _, _ => none
    | _ => none
  | .fa off x => match ev e x with
    | some (.pointer (some a)) => some (.pointer (some ⟨a.block, a.off + off, none⟩), h)
    | _ => none
  | .fd off n x => match ev e x with
    | some (.agg cs) => match n with
      | none => match cs[off]? with | some v => some (v, h) | none => none
      | some n => some (.agg (cs.extract off (off + n)), h)
    | _ => none
  | .iaV es x i => match ev e x with
    | some (.slice (some a) n _) => match ev e i with
      | some (.int _ i) => if 0 ≤ i ∧ i < n then some (.pointer (some ⟨a.block, a.off + i.toNat * es, none⟩), h) else none
      | _ => none
    | _ => none
  | .iaA n es x i => match ev e x with
    | some (.pointer (some a)) => match ev e i with
      | some (.int _ i) => if 0 ≤ i ∧ i < n then some (.pointer (some ⟨a.block, a.off + i.toNat * es, none⟩), h) else none
      | _ => none
    | _ => none
  | .ixS x i => match ev e x with
    | some (.string s) => match ev e i with
      | some (.int _ i) => if 0 ≤ i then (match s[i.toNat]? with | some b => some (.int .u8 b.toNat, h) | none => none) else none
      | _ => none
    | _ => none
  | .ixA n es agg x i => match ev e x with
    | some (.agg cs) => match ev e i with
      | some (.int _ i) =>
        if 0 ≤ i ∧ i < n then
          if agg then some (.agg (cs.extract (i.toNat * es) (i.toNat * es + es)), h)
          else match cs[i.toNat * es]? with | some v => some (v, h) | none => none
        else none
      | _ => none
    | _ => none
  | .ext x k => match ev e x with
    | some (.tuple vs) => match vs[k]? with | some v => some (v, h) | none => none
    | _ => none
  | .lenV x => match ev e x with
    | some (.slice _ n _) => some (.int .i64 n, h)
    | _ => none
  | .lenS x => match ev e x with
    | some (.string s) => some (.int .i64 s.size, h)
    | _ => none
  | .lenC n => some (.int .i64 n, h)
  | .mm isMin x y => match ev e x with
    | some (.int k a) => match ev e y with
      | some (.int _ b) => some (.int k (if isMin then (if b < a then b else a) else (if b > a then b else a)), h)
      | _ => none
    | _ => none
  | .app es bytes x y => match ev e x with
    | some a => match ev e y with
      | some b => appE h nm es bytes a b
      | none => none
    | none => none
  | .cpy es x y => match ev e x with
    | some (.slice p n _) => match ev e y with
      | some b => match srcLen b with
        | some m => match srcCells h es (Nat.min m n) b with
          | some src => match p with
            | some a => match h.sts a src with
              | some h2 => some (.int .i64 (Nat.min m n : Nat), h2)
              | none => none
            | none => some (.int .i64 (Nat.min m n : Nat), h)
          | none => none
        | none => none
      | none => none
    | _ => none
  | .clr es z x => match ev e x with
    | some (.slice none _ _) => some (.tuple #[], h)
    | some (.slice (some a) n _) => if n = 0 then some (.tuple #[], h) else match h.sts a (zrep z n) with
      | some h2 => some (.tuple #[], h2)
      | none => none
    | _ => none
  | .bad => none
  | .capV x => match ev e x with
    | some (.slice _ _ c) => if c % 2 = 1 then some (.int .i64 (c / 2 : Nat), h) else none
    | _ => none
  | .apz z bytes x y => match ev e x with
    | some (.slice (some a) len c) => match ev e y with
      | some (.int _ k) =>
        if 0 < k ∧ c % 2 = 1 ∧ c / 2 < len + k.toNat ∧ 0 < z.length ∧ len + k.toNat ≤ 1099511627776 ∧ (len + k.toNat) * bytes ≤ 140737488355328 then
          match h.lds a (len * z.length) with
          | some old => some (.slice (some ⟨(h.mkb nm ⟨old ++ zrep z k.toNat, z.length, false⟩).1, 0, none⟩) (len + k.toNat) (2 * (len + k.toNat)), (h.mkb nm ⟨old ++ zrep z k.toNat, z.length, false⟩).2)
          | none => none
        else none
      | _ => none
    | _ => none

/-! ### From the model's operations -/
def szOf (P : Program) (t : TypeId) : Option Nat := (P.info? t).map (·.size)
def isAggB (P : Program) (t : TypeId) : Bool := match P.underlying t with | some (.struct _) | some (.array _ _) => true | _ => false
def zeroL (P : Program) (t : TypeId) : Option (List Value) :=
  match P.info? t with
  | some i => match i.zero with
    | some z => if z.cells.toList.all (fun v => plain1 v) = true ∧ z.cells.toList.length = i.size then some z.cells.toList else none
    | none => none
  | none => none
def offsF (P : Program) (f : TypeId → Nat → Option (List (Nat × Nat))) (sz off : Nat) : List Field → Option (List (Nat × Nat))
  | [] => some []
  | g :: fs => if g.name = "_" then none else match szOf P g.type with
    | some n => if g.offset + n ≤ sz then match f g.type (off + g.offset) with
      | some l => match offsF P f sz off fs with
        | some m => some (l ++ m)
        | none => none
      | none => none else none
    | none => none
def offsA (f : TypeId → Nat → Option (List (Nat × Nat))) (off : Nat) (e : TypeId) (s : Nat) : Nat → Nat → Option (List (Nat × Nat))
  | 0, _ => some []
  | n + 1, i => match f e (off + i * s) with
    | some l => match offsA f off e s n (i + 1) with
      | some m => some (l ++ m)
      | none => none
    | none => none
/-- The cells that '==' looks at, at a type: whole numbers, bools, texts, structs and arrays of them. -/
def eqOffs (P : Program) : Nat → TypeId → Nat → Option (List (Nat × Nat))
  | 0, _, _ => none
  | d + 1, t, off =>
    match P.underlying t with
    | some .bool => if szOf P t = some 1 then some [(off, 0)] else none
    | some (.int _) => if szOf P t = some 1 then some [(off, 1)] else none
    | some .string => if szOf P t = some 1 then some [(off, 2)] else none
    | some (.struct fs) => if P.stoodInHeld t = true then none else match szOf P t with
      | some sz => offsF P (eqOffs P d) sz off fs.toList
      | none => none
    | some (.array n e) => match szOf P t, szOf P e with
      | some sz, some s => if n * s ≤ sz then offsA (eqOffs P d) off e s n 0 else none
      | _, _ => none
    | _ => none
def partsS (P : Program) (fs : Array Field) : List (Nat × Operand) → Option (List (Nat × Nat × Operand))
  | [] => some []
  | (k, x) :: r => match fs[k]? with
    | some f => match szOf P f.type with
      | some s => match partsS P fs r with
        | some l => some ((f.offset, s, x) :: l)
        | none => none
      | none => none
    | none => none
def bytesOf' (P : Program) (t : TypeId) : Option Nat := (P.info? t).map (·.bytes)
def isSrc (P : Program) (t : TypeId) : Bool := match P.underlying t with | some (.slice _) => true | some .string => true | _ => false

def isIntT (P : Program) (t : TypeId) : Bool := match P.underlying t with | some (.int _) => true | _ => false
def compB (P : Program) (b : Builtin) (ts : List TypeId) (xs : List Operand) : Option IOp :=
  match b, ts, xs with
  | .len, [t], [x] => match P.underlying t with
    | some .string => some (.lenS x)
    | some (.slice _) => some (.lenV x)
    | some (.array n _) => some (.lenC n)
    | _ => none
  | .cap, [t], [x] => match P.underlying t with
    | some (.slice _) => some (.capV x)
    | _ => none
  | .min, _, [x, y] => some (.mm true x y)
  | .max, _, [x, y] => some (.mm false x y)
  | .append, [t, u], [x, y] => match P.underlying t with
    | some (.slice el) => match szOf P el, bytesOf' P el, (zeroL P el).isSome, isSrc P u with
      | some s, some b, true, true => some (.app s b x y)
      | _, _, _, _ => match bytesOf' P el, zeroL P el, isIntT P u with
        | some b, some z, true => some (.apz z b x y)
        | _, _, _ => none
    | _ => none
  | .copy, [t, _], [x, y] => match P.underlying t with
    | some (.slice el) => match szOf P el with
      | some s => some (.cpy s x y)
      | none => none
    | _ => none
  | .clear, [t], [x] => match P.underlying t with
    | some (.slice el) => match zeroL P el with
      | some z => some (.clr z.length z x)
      | none => none
    | _ => none
  | _, _, _ => none

def compBin (P : Program) (op : BinOp) (t : TypeId) (x y : Operand) : Option IOp :=
  match P.underlying t with
  | some (.int _) => some (.bin op x y)
  | some .string => some (.bin op x y)
  | some .bool => match op with
    | .eql => some (.eqq false (.one 0) x y)
    | .neq => some (.eqq true (.one 0) x y)
    | _ => none
  | some (.pointer _) => match op with
    | .eql => some (.eqq false .nilP x y)
    | .neq => some (.eqq true .nilP x y)
    | _ => none
  | some (.slice _) => match op with
    | .eql => some (.eqq false .nilV x y)
    | .neq => some (.eqq true .nilV x y)
    | _ => none
  | some (.struct _) => if P.eqGuardType P.depth t = false then match op, eqOffs P 20 t 0 with
    | .eql, some l => some (.eqq false (.agg l) x y)
    | .neq, some l => some (.eqq true (.agg l) x y)
    | _, _ => none else none
  | some (.array _ _) => if P.eqGuardType P.depth t = false then match op, eqOffs P 20 t 0 with
    | .eql, some l => some (.eqq false (.agg l) x y)
    | .neq, some l => some (.eqq true (.agg l) x y)
    | _, _ => none else none
  | _ => none
def compCv (P : Program) (s d : TypeId) (x : Operand) : Option IOp :=
  match P.underlying s, P.underlying d with
  | some (.int _), some (.int k) => some (.cvI k x)
  | some .string, some .string => some (.cvS x)
  | some (.slice e), some .string => match P.underlying e with
    | some (.int .u8) => some (.cvB x)
    | _ => none
  | some .string, some (.slice e) => match P.underlying e with
    | some (.int .u8) => some (.cvY x)
    | _ => none
  | _, _ => none

def compOp (P : Program) (o : Op) : Option IOp :=
  match o with
  | .move x => some (.mov x)
  | .assign x => some (.mov x)
  | .pick c a b => some (.pick c a b)
  | .alloc t => match zeroL P t with | some z => some (.new z) | none => none
  | .box _ x => some (.box x)
  | .build t ps => match zeroL P t with
    | some z => match P.underlying t with
      | some (.struct fs) => if fs.toList.all (fun f => (szOf P f.type).isSome) = true then match partsS P fs ps.toList with
        | some l => some (.build z l)
        | none => none else none
      | some (.array _ el) => match szOf P el with
        | some s => some (.build z (ps.toList.map fun p => (p.1 * s, s, p.2)))
        | none => none
      | _ => none
    | none => none
  | .buildSlice t n ps => match P.underlying t with
    | some (.slice el) => match zeroL P el with
      | some z => if n * z.length ≤ 16777216 then some (.bsl z.length n (zrep z n) (ps.toList.map fun p => (p.1 * z.length, z.length, p.2))) else none
      | none => none
    | _ => none
  | .load t x => match szOf P t, P.underlying t with
    | some n, some (.struct _) => some (.ldN n x)
    | some n, some (.array _ _) => some (.ldN n x)
    | some _, some _ => some (.ld1 x)
    | _, _ => none
  | .store t a x => match szOf P t with | some n => some (.st n a x) | none => none
  | .nilCheck x => some (.nck x)
  | .binOp op t x y _ => compBin P op t x y
  | .unOp op _ x => some (.un op x)
  | .convert s d x => compCv P s d x
  | .makeInterface t x => match P.underlying t with
    | some (.interface _) => none
    | some _ => some (.mkI t x)
    | none => none
  | .makeFunc fn a b => some (.mkF fn a.toList b.toList)
  | .makeSlice t l c => match P.underlying t with
    | some (.slice el) => match zeroL P el, bytesOf' P el with
      | some z, some b => some (.mkS z.length b z l c)
      | _, _ => none
    | _ => none
  | .slice t x lo hi mx => match P.underlying t with
    | some .string => if mx.isNone = true then some (.slS x lo hi) else none
    | some (.slice el) => match szOf P el with | some s => some (.slV s x lo hi mx) | none => none
    | some (.array n el) => match szOf P el with | some s => some (.slA n s x lo hi mx) | none => none
    | _ => none
  | .fieldAddr t x k => match P.underlying t with
    | some (.struct fs) => match fs[k]? with
      | some f => match szOf P f.type with
        | some s => if s = 0 then none else some (.fa f.offset x)
        | none => none
      | none => none
    | _ => none
  | .field t x k => match P.underlying t with
    | some (.struct fs) => match fs[k]? with
      | some f => match szOf P f.type, P.underlying f.type with
        | some n, some (.struct _) => some (.fd f.offset (some n) x)
        | some n, some (.array _ _) => some (.fd f.offset (some n) x)
        | some _, some _ => some (.fd f.offset none x)
        | _, _ => none
      | none => none
    | _ => none
  | .indexAddr t x i => match P.underlying t with
    | some (.slice el) => match szOf P el with | some s => some (.iaV s x i) | none => none
    | some (.array n el) => match szOf P el with | some s => some (.iaA n s x i) | none => none
    | _ => none
  | .index t x i => match P.underlying t with
    | some .string => some (.ixS x i)
    | some (.array n el) => match szOf P el, P.underlying el with
      | some s, some (.struct _) => some (.ixA n s true x i)
      | some s, some (.array _ _) => some (.ixA n s true x i)
      | some s, some _ => some (.ixA n s false x i)
      | _, _ => none
    | _ => none
  | .extract x k => some (.ext x k)
  | .call c => match c.callee with
    | .builtin b => compB P b c.argTypes.toList c.args.toList
    | _ => none
  | _ => none
end Go.Proofs.Ytncpdahappmhkaa.Am
