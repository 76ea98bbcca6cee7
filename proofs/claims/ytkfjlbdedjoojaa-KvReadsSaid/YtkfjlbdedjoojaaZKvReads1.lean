/- The law 'KvReads' returns true for all arguments: what its proof stands on, part 1. -/
import Derived.Test.YtkfjlbdedjoojaaZKvReads0
import Derived.Laws.Entries
import Derived.Laws.StructEq
import Derived.Laws.Append
import Derived.Laws.BytesString
import Derived.Lib.ConvBytes
import Derived.Lib.SliceRun
import Derived.Laws.Pointers
import Derived.Laws.Small
namespace Go.Proofs.Ytkfjlbdedjoojaa.Am
open Go
set_option linter.unusedVariables false
set_option linter.unusedSimpArgs false
abbrev Env := List (Nat × Value)
def look : Env → Nat → Option Value
  | [], _ => none
  | (t, v) :: e, n => if t = n then some v else look e n
def plain1 : Value → Bool
  | .bool _ => true
  | .int _ _ => true
  | .string _ => true
  | .nilFunc => true
  | .nilIface => true
  | .pointer none => true
  | .slice none 0 0 => true
  | _ => false
def plain : Value → Bool
  | .agg cs => cs.toList.all plain1
  | .tuple cs => cs.toList.all plain1
  | v => plain1 v
def ev (e : Env) : Operand → Option Value
  | .tmp t => look e t
  | .const v => if plain v = true then some v else none
  | .func f => some (.func (.func f) #[] #[])
  | .global _ => none
def evs (e : Env) : List Operand → Option (List Value)
  | [] => some []
  | x :: xs => match ev e x with
    | some v => match evs e xs with
      | some vs => some (v :: vs)
      | none => none
    | none => none
inductive EqK where
  | one (k : Nat)
  | nilP
  | nilV
  | agg (offs : List (Nat × Nat))
inductive IOp where
  | mov (x : Operand)
  | pick (c a b : Operand)
  | new (z : List Value)
  | box (x : Operand)
  | build (z : List Value) (ps : List (Nat × Nat × Operand))
  | bsl (es len : Nat) (z : List Value) (ps : List (Nat × Nat × Operand))
  | ld1 (x : Operand)
  | ldN (n : Nat) (x : Operand)
  | st (n : Nat) (a x : Operand)
  | nck (x : Operand)
  | nckM (name : String) (ts : List Nat) (x : Operand)
  | bin (op : BinOp) (x y : Operand)
  | eqq (neg : Bool) (k : EqK) (x y : Operand)
  | un (op : UnOp) (x : Operand)
  | cvI (k : IntKind) (x : Operand)
  | cvS (x : Operand)
  | cvB (x : Operand)
  | ovl (x y : Operand)
  | mkI (t : TypeId) (x : Operand)
  | mkF (fn : Fn) (fs cs : List Operand)
  | mkS (es bytes : Nat) (z : List Value) (l c : Operand)
  | slS (x : Operand) (lo hi : Option Operand)
  | slV (es : Nat) (x : Operand) (lo hi mx : Option Operand)
  | slA (n es : Nat) (x : Operand) (lo hi mx : Option Operand)
  | fa (off : Nat) (x : Operand)
  | fd (off : Nat) (n : Option Nat) (x : Operand)
  | iaV (es : Nat) (x i : Operand)
  | iaA (n es : Nat) (x i : Operand)
  | ixS (x i : Operand)
  | ixA (n es : Nat) (agg : Bool) (x i : Operand)
  | ext (x : Operand) (k : Nat)
  | lenS (x : Operand)
  | lenV (x : Operand)
  | lenC (n : Nat)
  | mm (isMin : Bool) (x y : Operand)
  | app (es bytes : Nat) (x y : Operand)
  | cpy (es : Nat) (x y : Operand)
  | clr (es : Nat) (z : List Value) (x : Operand)
  | bad
  | capV (x : Operand)
  | apz (z : List Value) (bytes : Nat) (x y : Operand)
def H.mkb (h : H) (nm : Option Nat) (B : Blk) : Nat × H :=
  match nm with
  | none => (h.next, h.alloc B)
  | some n => (n, h.set n (some B))
def fillL (cells : List Value) : List (Nat × Nat × Value) → Option (List Value)
  | [] => some cells
  | (off, size, v) :: rest => if v.cells.toList.length = size ∧ off + size ≤ cells.length then fillL (splice cells off v.cells.toList) rest else none
def evp (e : Env) : List (Nat × Nat × Operand) → Option (List (Nat × Nat × Value))
  | [] => some []
  | (o, n, x) :: xs => match ev e x with
    | some v => match evp e xs with
      | some vs => some ((o, n, v) :: vs)
      | none => none
    | none => none
def zrep (z : List Value) : Nat → List Value
  | 0 => []
  | n + 1 => z ++ zrep z n
def eq1 : Nat → Value → Value → Option Bool
  | 0, .bool a, .bool b => some (a == b)
  | 1, .int k a, .int k' b => if k = k' then some (a == b) else none
  | 2, .string a, .string b => some (a.toList == b.toList)
  | _, _, _ => none
def eqL (x y : Array Value) : List (Nat × Nat) → Option Bool
  | [] => some true
  | (o, k) :: os => match x[o]? with
    | some a => match y[o]? with
      | some b => match eq1 k a b with
        | some c => match eqL x y os with
          | some d => some (c && d)
          | none => none
        | none => none
      | none => none
    | none => none
def eqNP : Value → Value → Option Bool
  | .pointer p, .pointer none => some p.isNone
  | _, _ => none
def eqNV : Value → Value → Option Bool
  | .slice p _ _, .slice none _ _ => some p.isNone
  | _, _ => none
def eqG (os : List (Nat × Nat)) : Value → Value → Option Bool
  | .agg x, .agg y => eqL x y os
  | _, _ => none
def eqV (k : EqK) (x y : Value) : Option Bool :=
  match k with
  | .one k => eq1 k x y
  | .nilP => eqNP x y
  | .nilV => eqNV x y
  | .agg os => eqG os x y
def binV (op : BinOp) (x y : Value) : Option Value :=
  match x, y with
  | .int k a, .int k' b =>
    match op with
    | .shl => if b < 0 then none else some (.int k (k.wrap (a * 2 ^ (min b.toNat k.bits))))
    | .shr => if b < 0 then none else some (.int k (a.fdiv (2 ^ (min b.toNat k.bits))))
    | _ => if k ≠ k' then none else
      match op with
      | .add => some (.int k (k.wrap (a + b)))
      | .sub => some (.int k (k.wrap (a - b)))
      | .mul => some (.int k (k.wrap (a * b)))
      | .quo => if b = 0 then none else some (.int k (k.wrap (a.tdiv b)))
      | .rem => if b = 0 then none else some (.int k (a.tmod b))
      | .and => some (.int k (k.wrap ((BitVec.ofInt k.bits a &&& BitVec.ofInt k.bits b).toNat : Nat)))
      | .or => some (.int k (k.wrap ((BitVec.ofInt k.bits a ||| BitVec.ofInt k.bits b).toNat : Nat)))
      | .xor => some (.int k (k.wrap ((BitVec.ofInt k.bits a ^^^ BitVec.ofInt k.bits b).toNat : Nat)))
      | .andNot => some (.int k (k.wrap ((BitVec.ofInt k.bits a &&& ~~~ BitVec.ofInt k.bits b).toNat : Nat)))
      | .eql => some (.bool (a == b))
      | .neq => some (.bool (a != b))
      | .lss => some (.bool (a < b))
      | .leq => some (.bool (a ≤ b))
      | .gtr => some (.bool (a > b))
      | .geq => some (.bool (a ≥ b))
      | _ => none
  | .string a, .string b =>
    match op with
    | .add => if a.size + b.size ≤ 4398046511104 then some (.string (a ++ b)) else none
    | .eql => some (.bool (a.toList == b.toList))
    | .neq => some (.bool !(a.toList == b.toList))
    | .lss => some (.bool (Op.bytesLess a.toList b.toList))
    | .leq => some (.bool (Op.bytesLess a.toList b.toList || a.toList == b.toList))
    | .gtr => some (.bool !(Op.bytesLess a.toList b.toList || a.toList == b.toList))
    | .geq => some (.bool !(Op.bytesLess a.toList b.toList))
    | _ => none
  | _, _ => none
def bytesL : List Value → ByteArray → Option ByteArray
  | [], s => some s
  | .int .u8 n :: vs, s => bytesL vs (s.push (UInt8.ofNat n.toNat))
  | _ :: _, _ => none
def bnd (e : Env) : Option Operand → Option (Option Nat)
  | none => some none
  | some x => match ev e x with
    | some (.int _ i) => if 0 ≤ i then some (some i.toNat) else none
    | _ => none
def srcLen : Value → Option Nat
  | .slice _ n _ => some n
  | .string s => some s.size
  | _ => none
def srcCells (h : H) (es n : Nat) : Value → Option (List Value)
  | .slice (some a) _ _ => h.lds a (n * es)
  | .slice none _ _ => if n = 0 then some [] else none
  | .string s => if es = 1 then some (((s.extract 0 n).data.map fun b => Value.int .u8 b.toNat).toList) else none
  | _ => none
def appE (h : H) (nm : Option Nat) (es bytes : Nat) (x y : Value) : Option (Value × H) :=
  match srcLen y with
  | none => none
  | some n =>
    match srcCells h es n y with
    | none => none
    | some src =>
      match x with
      | .slice none 0 0 =>
        if n = 0 then some (.slice none 0 0, h)
        else if n * bytes ≤ 140737488355328 ∧ n ≤ 4398046511104 ∧ src.all (·.oneCell') = true then
          some (.slice (some ⟨(h.mkb nm ⟨src, es, false⟩).1, 0, none⟩) n (2 * n), (h.mkb nm ⟨src, es, false⟩).2)
        else none
      | .slice (some a) len c =>
        let need := len + n
        if need ≤ c / 2 then
          match h.sts ⟨a.block, a.off + len * es, none⟩ src with
          | some h2 => some (.slice (some a) need c, h2)
          | none => none
        else if need * bytes ≤ 140737488355328 ∧ need ≤ 4398046511104 ∧ src.all (·.oneCell') = true then
          match h.lds a (len * es) with
          | none => none
          | some old =>
            if c % 2 = 1 then
              some (.slice (some ⟨(h.mkb nm ⟨old ++ src, es, false⟩).1, 0, none⟩) need (2 * need), (h.mkb nm ⟨old ++ src, es, false⟩).2)
            else match nm, h.get a.block with
              | none, some B =>
                if B.ro = false ∧ B.es = es ∧ a.spot = none then
                  some (.slice (some ⟨h.next, 0, none⟩) need (2 * need), (h.set a.block none).alloc ⟨old ++ src, es, false⟩)
                else none
              | _, _ => none
        else none
      | _ => none
def opE (i : IOp) (e : Env) (h : H) (nm : Option Nat) : Option (Value × H) :=
  match i with
  | .mov x => match ev e x with | some v => some (v, h) | none => none
  | .pick c a b => match ev e c with
    | some (.bool true) => match ev e a with | some v => some (v, h) | none => none
    | some (.bool false) => match ev e b with | some v => some (v, h) | none => none
    | _ => none
  | .new z => some (.pointer (some ⟨(h.mkb nm ⟨z, 0, false⟩).1, 0, none⟩), (h.mkb nm ⟨z, 0, false⟩).2)
  | .box x => match ev e x with
    | some v => if v.cells.toList.all (·.oneCell') = true then (some (.pointer (some ⟨(h.mkb nm ⟨v.cells.toList, 0, false⟩).1, 0, none⟩), (h.mkb nm ⟨v.cells.toList, 0, false⟩).2)) else none
    | none => none
  | .build z ps => match evp e ps with
    | some l => match fillL z l with
      | some cs => some (.agg cs.toArray, h)
      | none => none
    | none => none
  | .bsl es len z ps => match evp e ps with
    | some l => match fillL z l with
      | some cs => if cs.all (·.oneCell') = true then (some (.slice (some ⟨(h.mkb nm ⟨cs, es, false⟩).1, 0, none⟩) len (2 * len + 1), (h.mkb nm ⟨cs, es, false⟩).2)) else none
      | none => none
    | none => none
  | .ld1 x => match ev e x with
    | some (.pointer (some a)) => match h.ld a with | some v => some (v, h) | none => none
    | _ => none
  | .ldN n x => match ev e x with
    | some (.pointer (some a)) => match h.lds a n with | some vs => some (.agg vs.toArray, h) | none => none
    | _ => none
  | .st n a x => match ev e a with
    | some (.pointer (some a)) => match ev e x with
      | some v => if v.cells.toList.length = n then (match h.sts a v.cells.toList with | some h2 => some (undef, h2) | none => none) else none
      | none => none
    | _ => none
  | .nck x => match ev e x with
    | some (.pointer (some a)) => some (.pointer (some a), h)
    | some (.iface t v) => some (.iface t v, h)
    | some (.func (.func f) x y) => some (.func (.func f) x y, h)
    | _ => none
  | .nckM name ts x => match ev e x with
    | some (.func (.method m) first cap) => if m = name then match (first[0]? : Option Value) with
      | some (.iface t u) => if ts.contains t = true then some (.func (.method m) first cap, h) else none
      | _ => none else none
    | _ => none
  | .bin op x y => match ev e x with
    | some a => match ev e y with
      | some b => match binV op a b with | some v => some (v, h) | none => none
      | none => none
    | none => none
  | .eqq neg k x y => match ev e x with
    | some a => match ev e y with
      | some b => match eqV k a b with | some v => some (.bool (v != neg), h) | none => none
      | none => none
    | none => none
  | .un op x => match op, ev e x with
    | .not, some (.bool b) => some (.bool (!b), h)
    | .neg, some (.int k n) => some (.int k (k.wrap (0 - n)), h)
    | .xor, some (.int k n) => some (.int k (k.wrap ((BitVec.ofInt k.bits (if k.signed then -1 else k.max) ^^^ BitVec.ofInt k.bits n).toNat : Nat)), h)
    | _, _ => none
  | .cvI k x => match ev e x with | some (.int _ n) => some (.int k (k.wrap n), h) | _ => none
  | .cvS x => match ev e x with | some (.string s) => some (.string s, h) | _ => none
  | .cvB x => match ev e x with
    | some (.slice none 0 0) => some (.string .empty, h)
    | some (.slice (some a) n _) => match h.lds a n with
      | some vs => match bytesL vs .empty with | some s => some (.string s, h) | none => none
      | none => none
    | _ => none
  | .ovl x y => match ev e x with
    | some (.slice (some a) n _) => match ev e y with
      | some (.slice (some b) m _) => match h.get a.block with
        | some A => match h.get b.block with
          | some B => if a.block ≠ b.block ∧ A.ro = false ∧ B.ro = false ∧ 0 < n ∧ 0 < m ∧ a.off < A.cells.length ∧ b.off < B.cells.length then some (.bool false, h) else none
          | none => none
        | none => none
      | _ => none
    | _ => none
  | .mkI t x => match ev e x with | some v => some (.iface t v, h) | none => none
  | .mkF fn fs cs => match evs e fs with
    | some l => match evs e cs with | some m => some (.func fn l.toArray m.toArray, h) | none => none
    | none => none
  | .mkS es bytes z l c => match ev e l with
    | some (.int _ l) => match ev e c with
      | some (.int _ c) =>
        if 0 ≤ l ∧ l ≤ c ∧ c ≤ 4398046511104 ∧ bytes * c ≤ 281474976710656 then
          some (.slice (some ⟨(h.mkb nm ⟨zrep z c.toNat, es, false⟩).1, 0, none⟩) l.toNat (2 * c.toNat + 1), (h.mkb nm ⟨zrep z c.toNat, es, false⟩).2)
        else none
      | _ => none
    | _ => none
  | .slS x lo hi => match ev e x with
    | some (.string s) => match bnd e lo, bnd e hi with
      | some lo, some hi =>
        let b := hi.getD s.size
        let a := lo.getD 0
        if a ≤ b ∧ b ≤ s.size then some (.string (s.extract a b), h) else none
      | _, _ => none
    | _ => none
  | .slV es x lo hi mx => match ev e x with
    | some (.slice p n c) => match bnd e lo, bnd e hi, bnd e mx with
      | some lo, some hi, some mx =>
        let b := hi.getD n
        let a := lo.getD 0
        let m := mx.getD (c / 2)
        if a ≤ b ∧ b ≤ m ∧ m ≤ c / 2 ∧ (mx.isSome = true → hi.isSome = true) then
          match p with
          | none => if a = 0 ∧ b = 0 ∧ m = 0 ∧ n = 0 ∧ c = 0 then some (.slice none 0 0, h) else none
          | some p =>
            if c % 2 = 1 ∨ mx.isSome = true then
              some (.slice (some ⟨p.block, p.off + a * es, none⟩) (b - a) (2 * (m - a) + 1), h)
            else match h.get p.block with
              | some B => if B.es = es then some (.slice (some ⟨p.block, p.off + a * es, none⟩) (b - a) (2 * (m - a)), h) else none
              | none => none
        else none
      | _, _, _ => none
    | _ => none
  | .slA n es x lo hi mx => match ev e x with
    | some (.pointer (some p)) => match bnd e lo, bnd e hi, bnd e mx with
      | some lo, some hi, some mx =>
        let b := hi.getD n
        let a := lo.getD 0
        let m := mx.getD n
        if a ≤ b ∧ b ≤ m ∧ m ≤ n ∧ (mx.isSome = true → hi.isSome = true) then some (.slice (some ⟨p.block, p.off + a * es, none⟩) (b - a) (2 * (m - a) + 1), h) else none
      | _, _, _ => none
    | _ => none
  | .fa off x => match ev e x with
    | some (.pointer (some a)) => some (.pointer (some ⟨a.block, a.off + off, none⟩), h)
    | _ => none
  | .fd off n x => match ev e x with
    | some (.agg cs) => match n with
      | none => match cs[off]? with | some v => some (v, h) | none => none
      | some n => some (.agg (cs.extract off (off + n)), h)
    | _ => none
  | .iaV es x i => match ev e x with
    | some (.slice (some a) n _) => match ev e i with
      | some (.int _ i) => if 0 ≤ i ∧ i < n then some (.pointer (some ⟨a.block, a.off + i.toNat * es, none⟩), h) else none
      | _ => none
    | _ => none
  | .iaA n es x i => match ev e x with
    | some (.pointer (some a)) => match ev e i with
      | some (.int _ i) => if 0 ≤ i ∧ i < n then some (.pointer (some ⟨a.block, a.off + i.toNat * es, none⟩), h) else none
      | _ => none
    | _ => none
  | .ixS x i => match ev e x with
    | some (.string s) => match ev e i with
      | some (.int _ i) => if 0 ≤ i then (match s[i.toNat]? with | some b => some (.int .u8 b.toNat, h) | none => none) else none
      | _ => none
    | _ => none
  | .ixA n es agg x i => match ev e x with
    | some (.agg cs) => match ev e i with
      | some (.int _ i) =>
        if 0 ≤ i ∧ i < n then
          if agg then some (.agg (cs.extract (i.toNat * es) (i.toNat * es + es)), h)
          else match cs[i.toNat * es]? with | some v => some (v, h) | none => none
        else none
      | _ => none
    | _ => none
  | .ext x k => match ev e x with
    | some (.tuple vs) => match vs[k]? with | some v => some (v, h) | none => none
    | _ => none
  | .lenV x => match ev e x with
    | some (.slice _ n _) => some (.int .i64 n, h)
    | _ => none
  | .lenS x => match ev e x with
    | some (.string s) => some (.int .i64 s.size, h)
    | _ => none
  | .lenC n => some (.int .i64 n, h)
  | .mm isMin x y => match ev e x with
    | some (.int k a) => match ev e y with
      | some (.int _ b) => some (.int k (if isMin then (if b < a then b else a) else (if b > a then b else a)), h)
      | _ => none
    | _ => none
  | .app es bytes x y => match ev e x with
    | some a => match ev e y with
      | some b => appE h nm es bytes a b
      | none => none
    | none => none
  | .cpy es x y => match ev e x with
    | some (.slice p n _) => match ev e y with
      | some b => match srcLen b with
        | some m => match srcCells h es (Nat.min m n) b with
          | some src => match p with
            | some a => match h.sts a src with
              | some h2 => some (.int .i64 (Nat.min m n : Nat), h2)
              | none => none
            | none => some (.int .i64 (Nat.min m n : Nat), h)
          | none => none
        | none => none
      | none => none
    | _ => none
  | .clr es z x => match ev e x with
    | some (.slice none _ _) => some (.tuple #[], h)
    | some (.slice (some a) n _) => if n = 0 then some (.tuple #[], h) else match h.sts a (zrep z n) with
      | some h2 => some (.tuple #[], h2)
      | none => none
    | _ => none
  | .bad => none
  | .capV x => match ev e x with
    | some (.slice _ _ c) => if c % 2 = 1 then some (.int .i64 (c / 2 : Nat), h) else none
    | _ => none
  | .apz z bytes x y => match ev e x with
    | some (.slice (some a) len c) => match ev e y with
      | some (.int _ k) =>
        if 0 < k ∧ c % 2 = 1 ∧ c / 2 < len + k.toNat ∧ 0 < z.length ∧ len + k.toNat ≤ 4398046511104 ∧ (len + k.toNat) * bytes ≤ 140737488355328 then
          match h.lds a (len * z.length) with
          | some old => some (.slice (some ⟨(h.mkb nm ⟨old ++ zrep z k.toNat, z.length, false⟩).1, 0, none⟩) (len + k.toNat) (2 * (len + k.toNat)), (h.mkb nm ⟨old ++ zrep z k.toNat, z.length, false⟩).2)
          | none => none
        else none
      | _ => none
    | _ => none
def szOf (P : Program) (t : TypeId) : Option Nat := (P.info? t).map (·.size)
def isAggB (P : Program) (t : TypeId) : Bool := match P.underlying t with | some (.struct _) | some (.array _ _) => true | _ => false
def zeroL (P : Program) (t : TypeId) : Option (List Value) :=
  match P.info? t with
  | some i => match i.zero with
    | some z => if z.cells.toList.all (fun v => plain1 v) = true ∧ z.cells.toList.length = i.size then some z.cells.toList else none
    | none => none
  | none => none
def offsF (P : Program) (f : TypeId → Nat → Option (List (Nat × Nat))) (sz off : Nat) : List Field → Option (List (Nat × Nat))
  | [] => some []
  | g :: fs => if g.name = "_" then none else match szOf P g.type with
    | some n => if g.offset + n ≤ sz then match f g.type (off + g.offset) with
      | some l => match offsF P f sz off fs with
        | some m => some (l ++ m)
        | none => none
      | none => none else none
    | none => none
def offsA (f : TypeId → Nat → Option (List (Nat × Nat))) (off : Nat) (e : TypeId) (s : Nat) : Nat → Nat → Option (List (Nat × Nat))
  | 0, _ => some []
  | n + 1, i => match f e (off + i * s) with
    | some l => match offsA f off e s n (i + 1) with
      | some m => some (l ++ m)
      | none => none
    | none => none
def eqOffs (P : Program) : Nat → TypeId → Nat → Option (List (Nat × Nat))
  | 0, _, _ => none
  | d + 1, t, off =>
    match P.underlying t with
    | some .bool => if szOf P t = some 1 then some [(off, 0)] else none
    | some (.int _) => if szOf P t = some 1 then some [(off, 1)] else none
    | some .string => if szOf P t = some 1 then some [(off, 2)] else none
    | some (.struct fs) => if P.stoodInHeld t = true then none else match szOf P t with
      | some sz => offsF P (eqOffs P d) sz off fs.toList
      | none => none
    | some (.array n e) => match szOf P t, szOf P e with
      | some sz, some s => if n * s ≤ sz then offsA (eqOffs P d) off e s n 0 else none
      | _, _ => none
    | _ => none
def partsS (P : Program) (fs : Array Field) : List (Nat × Operand) → Option (List (Nat × Nat × Operand))
  | [] => some []
  | (k, x) :: r => match fs[k]? with
    | some f => match szOf P f.type with
      | some s => match partsS P fs r with
        | some l => some ((f.offset, s, x) :: l)
        | none => none
      | none => none
    | none => none
def bytesOf' (P : Program) (t : TypeId) : Option Nat := (P.info? t).map (·.bytes)
def isSrc (P : Program) (t : TypeId) : Bool := match P.underlying t with | some (.slice _) => true | some .string => true | _ => false
def isIntT (P : Program) (t : TypeId) : Bool := match P.underlying t with | some (.int _) => true | _ => false
def compB (P : Program) (b : Builtin) (ts : List TypeId) (xs : List Operand) : Option IOp :=
  match b, ts, xs with
  | .len, [t], [x] => match P.underlying t with
    | some .string => some (.lenS x)
    | some (.slice _) => some (.lenV x)
    | some (.array n _) => some (.lenC n)
    | _ => none
  | .cap, [t], [x] => match P.underlying t with
    | some (.slice _) => some (.capV x)
    | _ => none
  | .min, _, [x, y] => some (.mm true x y)
  | .max, _, [x, y] => some (.mm false x y)
  | .append, [t, u], [x, y] => match P.underlying t with
    | some (.slice el) => match szOf P el, bytesOf' P el, (zeroL P el).isSome, isSrc P u with
      | some s, some b, true, true => some (.app s b x y)
      | _, _, _, _ => match bytesOf' P el, zeroL P el, isIntT P u with
        | some b, some z, true => some (.apz z b x y)
        | _, _, _ => none
    | _ => none
  | .copy, [t, _], [x, y] => match P.underlying t with
    | some (.slice el) => match szOf P el with
      | some s => some (.cpy s x y)
      | none => none
    | _ => none
  | .clear, [t], [x] => match P.underlying t with
    | some (.slice el) => match zeroL P el with
      | some z => some (.clr z.length z x)
      | none => none
    | _ => none
  | _, _, _ => none
def compBin (P : Program) (op : BinOp) (t : TypeId) (x y : Operand) : Option IOp :=
  match P.underlying t with
  | some (.int _) => some (.bin op x y)
  | some .string => some (.bin op x y)
  | some .bool => match op with
    | .eql => some (.eqq false (.one 0) x y)
    | .neq => some (.eqq true (.one 0) x y)
    | _ => none
  | some (.pointer _) => match op with
    | .eql => some (.eqq false .nilP x y)
    | .neq => some (.eqq true .nilP x y)
    | _ => none
  | some (.slice _) => match op with
    | .eql => some (.eqq false .nilV x y)
    | .neq => some (.eqq true .nilV x y)
    | _ => none
  | some (.struct _) => if P.eqGuardType P.depth t = false then match op, eqOffs P 20 t 0 with
    | .eql, some l => some (.eqq false (.agg l) x y)
    | .neq, some l => some (.eqq true (.agg l) x y)
    | _, _ => none else none
  | some (.array _ _) => if P.eqGuardType P.depth t = false then match op, eqOffs P 20 t 0 with
    | .eql, some l => some (.eqq false (.agg l) x y)
    | .neq, some l => some (.eqq true (.agg l) x y)
    | _, _ => none else none
  | _ => none
def compCv (P : Program) (s d : TypeId) (x : Operand) : Option IOp :=
  match P.underlying s, P.underlying d with
  | some (.int _), some (.int k) => some (.cvI k x)
  | some .string, some .string => some (.cvS x)
  | some (.slice e), some .string => match P.underlying e with
    | some (.int .u8) => some (.cvB x)
    | _ => none
  | _, _ => none
def ovlC (P : Program) (c : Call) : Option IOp :=
  match c.callee with
  | .value (.func f) => match P.funcs[f]? with
    | some fn => if (fn.name == "runtime.NumGoroutine") = false ∧ fn.body.isNone = true ∧ fn.origin = "slices.overlaps" ∧ (Extern.allNextRows.lookup fn.name).isNone = true ∧ (Extern.allGenericRows.lookup fn.name).isNone = true ∧ (Extern.allTypedRows.lookup fn.name).isNone = true ∧ (Extern.allRows.lookup fn.name).isNone = true then
        match fn.params.toList, fn.resultTypes.toList, c.args.toList with
        | [t, u], [_], [x, y] => if t = u then (match P.underlying t with
          | some (.slice el) => if (szOf P el).isSome = true then some (.ovl x y) else none
          | _ => none) else none
        | _, _, _ => none
      else none
    | none => none
  | _ => none
def compOp (P : Program) (o : Op) : Option IOp :=
  match o with
  | .move x => some (.mov x)
  | .assign x => some (.mov x)
  | .pick c a b => some (.pick c a b)
  | .alloc t => match zeroL P t with | some z => some (.new z) | none => none
  | .box _ x => some (.box x)
  | .build t ps => match zeroL P t with
    | some z => match P.underlying t with
      | some (.struct fs) => if fs.toList.all (fun f => (szOf P f.type).isSome) = true then match partsS P fs ps.toList with
        | some l => some (.build z l)
        | none => none else none
      | some (.array _ el) => match szOf P el with
        | some s => some (.build z (ps.toList.map fun p => (p.1 * s, s, p.2)))
        | none => none
      | _ => none
    | none => none
  | .buildSlice t n ps => match P.underlying t with
    | some (.slice el) => match zeroL P el with
      | some z => if n * z.length ≤ 16777216 then some (.bsl z.length n (zrep z n) (ps.toList.map fun p => (p.1 * z.length, z.length, p.2))) else none
      | none => none
    | _ => none
  | .load t x => match szOf P t, P.underlying t with
    | some n, some (.struct _) => some (.ldN n x)
    | some n, some (.array _ _) => some (.ldN n x)
    | some _, some _ => some (.ld1 x)
    | _, _ => none
  | .store t a x => match szOf P t with | some n => some (.st n a x) | none => none
  | .nilCheck x => some (.nck x)
  | .binOp op t x y _ => compBin P op t x y
  | .unOp op _ x => some (.un op x)
  | .convert s d x => compCv P s d x
  | .makeInterface t x => match P.underlying t with
    | some (.interface _) => none
    | some _ => some (.mkI t x)
    | none => none
  | .makeFunc fn a b => some (.mkF fn a.toList b.toList)
  | .makeSlice t l c => match P.underlying t with
    | some (.slice el) => match zeroL P el, bytesOf' P el with
      | some z, some b => some (.mkS z.length b z l c)
      | _, _ => none
    | _ => none
  | .slice t x lo hi mx => match P.underlying t with
    | some .string => if mx.isNone = true then some (.slS x lo hi) else none
    | some (.slice el) => match szOf P el with | some s => some (.slV s x lo hi mx) | none => none
    | some (.array n el) => match szOf P el with | some s => some (.slA n s x lo hi mx) | none => none
    | _ => none
  | .fieldAddr t x k => match P.underlying t with
    | some (.struct fs) => match fs[k]? with
      | some f => match szOf P f.type with
        | some s => if s = 0 then none else some (.fa f.offset x)
        | none => none
      | none => none
    | _ => none
  | .field t x k => match P.underlying t with
    | some (.struct fs) => match fs[k]? with
      | some f => match szOf P f.type, P.underlying f.type with
        | some n, some (.struct _) => some (.fd f.offset (some n) x)
        | some n, some (.array _ _) => some (.fd f.offset (some n) x)
        | some _, some _ => some (.fd f.offset none x)
        | _, _ => none
      | none => none
    | _ => none
  | .indexAddr t x i => match P.underlying t with
    | some (.slice el) => match szOf P el with | some s => some (.iaV s x i) | none => none
    | some (.array n el) => match szOf P el with | some s => some (.iaA n s x i) | none => none
    | _ => none
  | .index t x i => match P.underlying t with
    | some .string => some (.ixS x i)
    | some (.array n el) => match szOf P el, P.underlying el with
      | some s, some (.struct _) => some (.ixA n s true x i)
      | some s, some (.array _ _) => some (.ixA n s true x i)
      | some s, some _ => some (.ixA n s false x i)
      | _, _ => none
    | _ => none
  | .extract x k => some (.ext x k)
  | .call c => match c.callee with
    | .builtin b => compB P b c.argTypes.toList c.args.toList
    | _ => ovlC P c
  | _ => none
end Go.Proofs.Ytkfjlbdedjoojaa.Am
namespace Go.Proofs.Ytkfjlbdedjoojaa.Am
open Go
set_option linter.unusedVariables false
set_option linter.unusedSimpArgs false
def EnvR (r : Rho) (e : Env) (ts : Array Value) : Prop := ∀ t v, look e t = some v → ∃ v', ts[t]? = some v' ∧ VR r v v'
theorem EnvR.mono {r s : Rho} {e : Env} {ts : Array Value} (h : EnvR r e ts) (k : r.le s) : EnvR s e ts := fun t v e1 => by
  obtain ⟨v', a, b⟩ := h t v e1; exact ⟨v', a, b.mono k⟩
theorem VR.of_plain1 {r : Rho} {v : Value} (h : plain1 v = true) : VR r v v := by
  unfold plain1 at h
  split at h <;> first | (cases h; done) | constructor
theorem VR.of_plainL {r : Rho} {l : List Value} (h : l.all plain1 = true) : VL r l l :=
  ⟨rfl, fun i v v' a b => by rw [a] at b; cases b; exact VR.of_plain1 (List.all_eq_true.1 h v (List.mem_of_getElem? a))⟩
theorem VR.of_plain {r : Rho} {v : Value} (h : plain v = true) : VR r v v := by
  unfold plain at h
  split at h
  · exact .agg rfl fun i v v' a b => by rw [a] at b; cases b; exact VR.of_plain1 (List.all_eq_true.1 h v (List.mem_of_getElem? (by simpa using a)))
  · exact .tuple rfl fun i v v' a b => by rw [a] at b; cases b; exact VR.of_plain1 (List.all_eq_true.1 h v (List.mem_of_getElem? (by simpa using a)))
  · exact VR.of_plain1 h
theorem oneCell_of_plain1 {v : Value} (h : plain1 v = true) : v.oneCell' = true := by
  unfold plain1 at h; split at h <;> first | (cases h; done) | rfl
theorem ev_sound {r : Rho} {e : Env} {a : Act} (he : EnvR r e a.tmps) {x : Operand} {v : Value} (h : ev e x = some v) : VR r v (a.eval x) := by
  cases x with
  | tmp t =>
    obtain ⟨v', h1, h2⟩ := he t v h
    simpa [Act.eval, Array.getD_eq_getD_getElem?, h1] using h2
  | const c =>
    simp only [ev] at h
    split at h
    · rename_i hp; cases h; exact VR.of_plain hp
    · cases h
  | global g => cases h
  | func f => cases h; exact .func _ rfl (fun i v v' a _ => by simp at a) rfl (fun i v v' a _ => by simp at a)
theorem evs_sound {r : Rho} {e : Env} {a : Act} (he : EnvR r e a.tmps) : ∀ {xs : List Operand} {vs : List Value}, evs e xs = some vs → VL r vs (xs.map a.eval) := by
  intro xs
  induction xs with
  | nil => intro vs h; cases h; exact VL.nil r
  | cons x xs ih =>
    intro vs h
    simp only [evs] at h
    split at h
    · rename_i v hv
      split at h
      · rename_i l hl; cases h; exact VL.cons (ev_sound he hv) (ih hl)
      · cases h
    · cases h
def Fsh (nm : Option Nat) (r : Rho) (h : H) (r2 : Rho) : Prop := ∀ n, n < h.next → nm ≠ some n → r n = none → r2 n = none
theorem Fsh.refl (nm : Option Nat) (r : Rho) (h : H) : Fsh nm r h r := fun _ _ _ k => k
def Stp (base : Nat) (nm : Option Nat) (r : Rho) (h : H) (w : World) (v : Value) (h2 : H) (res : Result Next) : Prop :=
  ∃ r2 w2 v', (res = .ok (.value v') w2 ∨ (res = .ok .skip w2 ∧ v' = undef)) ∧ VR r2 v v' ∧ Rel base r2 h2 w2 ∧ Fr base r h w r2 h2 w2 ∧ Fsh nm r h r2
variable {P : Program} {base : Nat} {r : Rho} {h h2 : H} {w : World} {e : Env} {a : Act} {nm : Option Nat} {v : Value}
theorem Stp.pure (R : Rel base r h w) {v' : Value} (k : VR r v v') : Stp base nm r h w v h (.ok (.value v') w) :=
  ⟨r, w, v', .inl rfl, k, R, Fr.refl .., Fsh.refl nm r h⟩
theorem Stp.pure' (R : Rel base r h w) {v' : Value} {res : Result Next} (k : VR r v v') (e1 : res = .ok (.value v') w) : Stp base nm r h w v h res := by
  subst e1; exact Stp.pure R k
theorem Rel.mkbZ (R : Rel base r h w) (hnm : ∀ n, nm = some n → n < h.next ∧ r n = none) {cs : List Value} {c : Array Value} {t : TypeId} {es lim : Nat}
    (hl : cs.length ≤ lim) (hl2 : lim ≤ c.size) (hc : ∀ (i : Nat) (v : Value), cs[i]? = some v → v.oneCell' = true ∧ ∃ v', c[i]? = some v' ∧ VR r v v') (hz : ∀ k, k < lim → ∃ v v', c[k]? = some v' ∧ v.oneCell' = true ∧ VR r v v') :
    ∃ r2, r2 (h.mkb nm ⟨cs, es, false⟩).1 = some ⟨w.heap.size, 0, lim, es⟩ ∧ Rel base r2 (h.mkb nm ⟨cs, es, false⟩).2 (w.alloc (.cells c t)) ∧
      Fr base r h w r2 (h.mkb nm ⟨cs, es, false⟩).2 (w.alloc (.cells c t)) ∧ Fsh nm r h r2 := by
  cases nm with
  | some n =>
    obtain ⟨h1, h2⟩ := hnm n rfl
    obtain ⟨q1, q2⟩ := R.new_at (e := t) (es := es) h1 h2 hl hl2 hc hz
    exact ⟨_, Rho.put_same .., q1, q2, fun m hm hne hr => by rw [Rho.put_ne _ _ (fun e1 => hne (by rw [e1]; rfl))]; exact hr⟩
  | none =>
    have hf : r h.next = none := R.new _ (Nat.le_refl _)
    obtain ⟨q1, q2⟩ := (R.up 1).new_at (nm := h.next) (e := t) (es := es) (by rw [H.next_up]; omega) hf hl hl2 hc hz
    exact ⟨_, Rho.put_same .., q1, (Fr.up base r h w 1).trans q2, fun m hm hne hr => by rw [Rho.put_ne _ _ (by show m ≠ h.next; omega)]; exact hr⟩
theorem Rel.mkb (R : Rel base r h w) (hnm : ∀ n, nm = some n → n < h.next ∧ r n = none) {cs : List Value} {c : Array Value} {t : TypeId} {es lim : Nat}
    (hl : cs.length ≤ lim) (hl2 : lim ≤ c.size) (hc : ∀ (i : Nat) (v : Value), cs[i]? = some v → v.oneCell' = true ∧ ∃ v', c[i]? = some v' ∧ VR r v v') (hlim : lim = cs.length := by rfl) :
    ∃ r2, r2 (h.mkb nm ⟨cs, es, false⟩).1 = some ⟨w.heap.size, 0, lim, es⟩ ∧ Rel base r2 (h.mkb nm ⟨cs, es, false⟩).2 (w.alloc (.cells c t)) ∧
      Fr base r h w r2 (h.mkb nm ⟨cs, es, false⟩).2 (w.alloc (.cells c t)) ∧ Fsh nm r h r2 := R.mkbZ hnm hl hl2 hc (fun k hk => by
    subst hlim
    obtain ⟨a, v', b, d⟩ := hc k _ (List.getElem?_eq_getElem hk)
    exact ⟨_, v', b, a, d⟩)
theorem AR.at {r2 : Rho} {m : Nat} {L : Loc} (hr : r2 m = some L) (h0 : L.o = 0) : AR r2 ⟨m, 0, none⟩ ⟨L.b, 0, none⟩ := ⟨rfl, L, hr, by simp [h0]⟩
theorem VL.cells_of {l l' : List Value} (k : VL r l l') (h1 : l.all (·.oneCell') = true) (m : List Value) : ∀ (i : Nat) (v : Value), l[i]? = some v → v.oneCell' = true ∧ ∃ v', (l' ++ m).toArray[i]? = some v' ∧ VR r v v' := fun i v hv => by
  obtain ⟨v', q1, q2⟩ := k.get hv
  refine ⟨List.all_eq_true.1 h1 v (List.mem_of_getElem? hv), v', ?_, q2⟩
  have hi : i < l'.length := (List.getElem?_eq_some_iff.1 q1).1
  simp [List.getElem?_append, hi, ← q1]
theorem info_of_szOf {t : TypeId} {n : Nat} (h : szOf P t = some n) : ∃ i, P.info? t = some i ∧ i.size = n := by
  unfold szOf at h
  cases hi : P.info? t with
  | none => rw [hi] at h; cases h
  | some i => rw [hi] at h; simp at h; exact ⟨i, rfl, h⟩
theorem zeroL_spec {t : TypeId} {z : List Value} (h : zeroL P t = some z) : ∃ i zv, P.info? t = some i ∧ i.zero = some zv ∧ zv.cells.toList = z ∧ z.all plain1 = true ∧ z.length = i.size := by
  unfold zeroL at h
  split at h
  · rename_i i hi
    split at h
    · rename_i zv hz
      split at h
      · rename_i hc; cases h; exact ⟨i, zv, hi, hz, rfl, by simpa using hc.1, hc.2⟩
      · cases h
    · cases h
  · cases h
theorem run_sizeOf' {t : TypeId} {i : TypeInfo} (h : P.info? t = some i) (w : World) : (sizeOf t).run P w = .ok i.size w := by
  simp [sizeOf, typeInfo, h]
theorem run_zero' {t : TypeId} {i : TypeInfo} {z : Value} (h : P.info? t = some i) (hz : i.zero = some z) (w : World) : (zeroValue t).run P w = .ok z w := by
  simp [zeroValue, typeInfo, h, hz]
theorem VR.int_inv {r : Rho} {k : IntKind} {n : Int} {v' : Value} (h : VR r (.int k n) v') : v' = .int k n := by cases h; rfl
theorem VR.string_inv {r : Rho} {s : ByteArray} {v' : Value} (h : VR r (.string s) v') : v' = .string s := by cases h; rfl
theorem VR.bool_inv {r : Rho} {b : Bool} {v' : Value} (h : VR r (.bool b) v') : v' = .bool b := by cases h; rfl
theorem binV_run {op : BinOp} {t : TypeId} {x y : Operand} {p q u : Value} {p' q' : Value} (hp : VR r p p') (hq : VR r q q') (E : binV op p q = some u) :
    (eqGuard op t x y p' q').run P w = .ok () w ∧ (binOp op t p' q').run P w = .ok u w ∧ VR r u u := by
  unfold binV at E
  split at E
  · obtain rfl := VR.int_inv hp; obtain rfl := VR.int_inv hq
    refine ⟨by cases op <;> simp [eqGuard], ?_⟩
    rename_i k a k' b
    cases op <;> simp only at E
    case shl =>
      split at E
      · cases E
      · rename_i hb; cases E; exact ⟨by simp [binOp, Op.shift, hb], .int ..⟩
    case shr =>
      split at E
      · cases E
      · rename_i hb; cases E; exact ⟨by simp [binOp, Op.shift, hb], .int ..⟩
    all_goals
      split at E
      · cases E
      · rename_i hk
        have hk : k = k' := by simpa using hk
        subst hk
        first
          | (cases E; first | (refine ⟨?_, .int ..⟩; simp only [binOp, ne_eq, not_true_eq_false, if_false]; rfl) | (refine ⟨?_, .bool ..⟩; simp [binOp, Op.intCmp]; done))
          | (split at E
             · cases E
             · rename_i hb; cases E; exact ⟨by simp [binOp, Op.intDiv, hb], .int ..⟩)
  · obtain rfl := VR.string_inv hp; obtain rfl := VR.string_inv hq
    refine ⟨by cases op <;> simp [eqGuard], ?_⟩
    cases op <;> simp only at E
    case add =>
      split at E
      · rename_i hb; cases E
        refine ⟨?_, .string ..⟩
        simp only [binOp, Op.stringOp]
        rw [if_neg (by rw [show IntKind.i64.max = 9223372036854775807 from rfl]; omega)]; rfl
      · cases E
    all_goals first | (cases E; done) | (cases E; exact ⟨by simp [binOp, Op.stringOp], .bool ..⟩)
  · cases E
section ops
theorem s_mov (R : Rel base r h w) (he : EnvR r e a.tmps) (hnm : ∀ n, nm = some n → n < h.next ∧ r n = none) {x : Operand} {o : Oper} (ho : o.op = .move x ∨ o.op = .assign x) (E : opE (.mov x) e h nm = some (v, h2)) : Stp base nm r h w v h2 ((execOp a.eval o).run P w) := by
  simp only [opE] at E
  split at E
  · rename_i u hu; cases E
    exact Stp.pure' R (ev_sound he hu) (by rcases ho with ho | ho <;> simp [execOp, ho])
  · cases E
theorem s_pick (R : Rel base r h w) (he : EnvR r e a.tmps) (hnm : ∀ n, nm = some n → n < h.next ∧ r n = none) {c x y : Operand} {o : Oper} (ho : o.op = .pick c x y) (E : opE (.pick c x y) e h nm = some (v, h2)) : Stp base nm r h w v h2 ((execOp a.eval o).run P w) := by
  simp only [opE] at E
  split at E
  · rename_i hc
    have kc := ev_sound he hc
    split at E
    · rename_i u hu; cases E
      refine Stp.pure' R (ev_sound he hu) ?_
      cases hq : a.eval c <;> rw [hq] at kc <;> cases kc
      simp [execOp, ho, hq, asBool]
    · cases E
  · rename_i hc
    have kc := ev_sound he hc
    split at E
    · rename_i u hu; cases E
      refine Stp.pure' R (ev_sound he hu) ?_
      cases hq : a.eval c <;> rw [hq] at kc <;> cases kc
      simp [execOp, ho, hq, asBool]
    · cases E
  · cases E
theorem s_new (R : Rel base r h w) (he : EnvR r e a.tmps) (hnm : ∀ n, nm = some n → n < h.next ∧ r n = none) {t : TypeId} {z : List Value} {o : Oper} (ho : o.op = .alloc t) (hz : zeroL P t = some z) (E : opE (.new z) e h nm = some (v, h2)) : Stp base nm r h w v h2 ((execOp a.eval o).run P w) := by
  simp only [opE] at E; cases E
  obtain ⟨i, zv, q1, q2, q3, q4, q5⟩ := zeroL_spec hz
  obtain ⟨r2, g1, g2, g3, g4⟩ := R.mkb (cs := z) (c := zv.cells) (t := t) (es := 0) (lim := z.length) hnm (Nat.le_refl _) (by rw [← q3]; simp) (fun k u hu => by
    have hp := List.all_eq_true.1 q4 u (List.mem_of_getElem? hu)
    exact ⟨oneCell_of_plain1 hp, u, by rw [← q3] at hu; simpa using hu, VR.of_plain1 hp⟩)
  refine ⟨r2, _, .pointer (some ⟨w.heap.size, 0, none⟩), .inl ?_, .ptr (AR.at g1 rfl), g2, g3, g4⟩
  simp [execOp, ho, Instr.alloc, run_zero' q1 q2, newVar, newRow]
theorem s_box (R : Rel base r h w) (he : EnvR r e a.tmps) (hnm : ∀ n, nm = some n → n < h.next ∧ r n = none) {t : TypeId} {x : Operand} {o : Oper} (ho : o.op = .box t x) (E : opE (.box x) e h nm = some (v, h2)) : Stp base nm r h w v h2 ((execOp a.eval o).run P w) := by
  simp only [opE] at E
  split at E
  · rename_i u hu
    split at E
    · rename_i h1; cases E
      have k := (ev_sound he hu).cells
      obtain ⟨r2, g1, g2, g3, g4⟩ := R.mkb (cs := u.cells.toList) (c := (a.eval x).cells) (t := t) (es := 0) (lim := u.cells.toList.length) hnm (Nat.le_refl _) (by rw [k.1]; simp) (fun i u' hu' => by
        obtain ⟨q1, v', q2, q3⟩ := k.cells_of h1 [] i u' hu'
        exact ⟨q1, v', by simpa using q2, q3⟩)
      refine ⟨r2, _, .pointer (some ⟨w.heap.size, 0, none⟩), .inl ?_, .ptr (AR.at g1 rfl), g2, g3, g4⟩
      simp [execOp, ho, Instr.box, newVar, newRow]
    · cases E
  · cases E
theorem s_ld1 (R : Rel base r h w) (he : EnvR r e a.tmps) (hnm : ∀ n, nm = some n → n < h.next ∧ r n = none) {t : TypeId} {d : TypeDesc} {x : Operand} {o : Oper} (ho : o.op = .load t x) (hd : P.underlying t = some d) (hA : isAggB P t = false) (E : opE (.ld1 x) e h nm = some (v, h2)) : Stp base nm r h w v h2 ((execOp a.eval o).run P w) := by
  simp only [opE] at E
  split at E
  · rename_i p hp
    split at E
    · rename_i u hu; cases E
      have k := ev_sound he hp
      generalize hq : a.eval x = q at k
      cases k with
      | ptr k =>
        obtain ⟨v', g1, g2, g3⟩ := ld_run R k hu
        refine Stp.pure' R g2 ?_
        unfold isAggB at hA; rw [hd] at hA
        have : (isAgg t).run P w = .ok false w := by
          unfold isAgg
          cases d <;> first | (simp at hA; done) | simp [run_underlying hd]
        simp [execOp, ho, Instr.loadAt, Instr.sureAddr, hq, loadVar, this, run_load, g1]
    · cases E
  · cases E
theorem s_ldN (R : Rel base r h w) (he : EnvR r e a.tmps) (hnm : ∀ n, nm = some n → n < h.next ∧ r n = none) {t : TypeId} {n : Nat} {x : Operand} {o : Oper} (ho : o.op = .load t x) (hs : szOf P t = some n) (hA : isAggB P t = true) (E : opE (.ldN n x) e h nm = some (v, h2)) : Stp base nm r h w v h2 ((execOp a.eval o).run P w) := by
  simp only [opE] at E
  split at E
  · rename_i p hp
    split at E
    · rename_i vs hvs; cases E
      obtain ⟨i, hi, rfl⟩ := info_of_szOf hs
      have k := ev_sound he hp
      generalize hq : a.eval x = q at k
      cases k with
      | ptr k =>
        obtain ⟨vs', g1, g2, g3, g4⟩ := lds_run (P := P) R (.inr k) hvs
        refine Stp.pure' R (VR.ofAgg g2) ?_
        have : (isAgg t).run P w = .ok true w := by
          unfold isAggB at hA; unfold isAgg
          cases hd : P.underlying t with
          | none => rw [hd] at hA; cases hA
          | some d => rw [hd] at hA; cases d <;> first | (simp at hA; done) | simp [run_underlying hd]
        simp [execOp, ho, Instr.loadAt, Instr.sureAddr, hq, loadVar, this, run_sizeOf' hi, g1 w rfl]
    · cases E
  · cases E
theorem s_st (R : Rel base r h w) (he : EnvR r e a.tmps) (hnm : ∀ n, nm = some n → n < h.next ∧ r n = none) {t : TypeId} {n : Nat} {x y : Operand} {o : Oper} (ho : o.op = .store t x y) (hs : szOf P t = some n) (E : opE (.st n x y) e h nm = some (v, h2)) : Stp base nm r h w v h2 ((execOp a.eval o).run P w) := by
  simp only [opE] at E
  split at E
  · rename_i p hp
    split at E
    · rename_i u hu
      split at E
      · rename_i hl
        split at E
        · rename_i h3 hst; cases E
          obtain ⟨i, hi, rfl⟩ := info_of_szOf hs
          have k := ev_sound he hp
          have ku := (ev_sound he hu).cells
          generalize hq : a.eval x = q at k
          cases k with
          | ptr k =>
            obtain ⟨w2, g1, g2, g3⟩ := sts_run (P := P) R (.inr k) ku hst
            refine ⟨r, w2, undef, .inr ⟨?_, rfl⟩, .tuple rfl (fun i v v' a _ => by simp at a), g2, g3, Fsh.refl nm r h⟩
            have hsz : (a.eval y).cells.size = i.size := by have := ku.1; simp only [Array.length_toList] at this; simp only [Array.length_toList] at hl; omega
            simp [execOp, ho, Instr.storeAt, Instr.sureAddr, hq, storeVar, run_sizeOf' hi, hsz, g1]
        · cases E
      · cases E
    · cases E
  · cases E
theorem s_nck (R : Rel base r h w) (he : EnvR r e a.tmps) (hnm : ∀ n, nm = some n → n < h.next ∧ r n = none) {x : Operand} {o : Oper} (ho : o.op = .nilCheck x) (E : opE (.nck x) e h nm = some (v, h2)) : Stp base nm r h w v h2 ((execOp a.eval o).run P w) := by
  simp only [opE] at E
  split at E <;> (try (cases E; done)) <;> cases E <;> rename_i hx <;> have k := ev_sound he hx <;> generalize hq : a.eval x = q at k
  all_goals
    refine Stp.pure' R k ?_
    cases k
    simp [execOp, ho, hq]
theorem s_bin (R : Rel base r h w) (he : EnvR r e a.tmps) (hnm : ∀ n, nm = some n → n < h.next ∧ r n = none) {op : BinOp} {t u : TypeId} {x y : Operand} {o : Oper} (ho : o.op = .binOp op t x y u) (E : opE (.bin op x y) e h nm = some (v, h2)) : Stp base nm r h w v h2 ((execOp a.eval o).run P w) := by
  simp only [opE] at E
  split at E
  · rename_i p hp
    split at E
    · rename_i q hq
      split at E
      · rename_i z hz; cases E
        obtain ⟨g1, g2, g3⟩ := binV_run (P := P) (w := w) (t := t) (x := x) (y := y) (ev_sound he hp) (ev_sound he hq) hz
        exact Stp.pure' R g3 (by simp [execOp, ho, g1, g2])
      · cases E
    · cases E
  · cases E
theorem s_un (R : Rel base r h w) (he : EnvR r e a.tmps) (hnm : ∀ n, nm = some n → n < h.next ∧ r n = none) {op : UnOp} {t : TypeId} {x : Operand} {o : Oper} (ho : o.op = .unOp op t x) (E : opE (.un op x) e h nm = some (v, h2)) : Stp base nm r h w v h2 ((execOp a.eval o).run P w) := by
  simp only [opE] at E
  split at E
  · rename_i hx; cases E
    have k := VR.bool_inv (ev_sound he hx)
    exact Stp.pure' R (.bool _) (by simp [execOp, ho, k, Op.unary])
  · rename_i hx; cases E
    have k := VR.int_inv (ev_sound he hx)
    exact Stp.pure' R (.int ..) (by simp [execOp, ho, k, Op.unary, Op.intArith])
  · rename_i hx; cases E
    have k := VR.int_inv (ev_sound he hx)
    exact Stp.pure' R (.int ..) (by simp only [execOp, ho, k, Op.unary]; rfl)
  · cases E
theorem s_cvI (R : Rel base r h w) (he : EnvR r e a.tmps) (hnm : ∀ n, nm = some n → n < h.next ∧ r n = none) {k : IntKind} {s d : TypeId} {ds : TypeDesc} {x : Operand} {o : Oper} (ho : o.op = .convert s d x) (h1 : P.underlying s = some ds) (hd : P.underlying d = some (.int k)) (E : opE (.cvI k x) e h nm = some (v, h2)) : Stp base nm r h w v h2 ((execOp a.eval o).run P w) := by
  simp only [opE] at E
  split at E
  · rename_i hx; cases E
    have q := VR.int_inv (ev_sound he hx)
    exact Stp.pure' R (.int ..) (by simp [execOp, ho, q, convert, run_underlying h1, run_underlying hd, Conv.intToInt])
  · cases E
theorem s_cvS (R : Rel base r h w) (he : EnvR r e a.tmps) (hnm : ∀ n, nm = some n → n < h.next ∧ r n = none) {s d : TypeId} {ds : TypeDesc} {x : Operand} {o : Oper} (ho : o.op = .convert s d x) (h1 : P.underlying s = some ds) (hd : P.underlying d = some .string) (E : opE (.cvS x) e h nm = some (v, h2)) : Stp base nm r h w v h2 ((execOp a.eval o).run P w) := by
  simp only [opE] at E
  split at E
  · rename_i hx; cases E
    have q := VR.string_inv (ev_sound he hx)
    exact Stp.pure' R (.string _) (by simp [execOp, ho, q, convert, run_underlying h1, run_underlying hd])
  · cases E
theorem s_mkI (R : Rel base r h w) (he : EnvR r e a.tmps) (hnm : ∀ n, nm = some n → n < h.next ∧ r n = none) {t : TypeId} {d : TypeDesc} {x : Operand} {o : Oper} (ho : o.op = .makeInterface t x) (hd : P.underlying t = some d) (hn : ∀ m, d ≠ .interface m) (E : opE (.mkI t x) e h nm = some (v, h2)) : Stp base nm r h w v h2 ((execOp a.eval o).run P w) := by
  simp only [opE] at E
  split at E
  · rename_i u hx; cases E
    refine Stp.pure' R (.iface t (ev_sound he hx)) ?_
    cases d <;> first | (exact absurd rfl (hn _)) | simp [execOp, ho, Instr.makeInterface, run_underlying hd]
  · cases E
theorem s_mkF (R : Rel base r h w) (he : EnvR r e a.tmps) (hnm : ∀ n, nm = some n → n < h.next ∧ r n = none) {fn : Fn} {x y : Array Operand} {o : Oper} (ho : o.op = .makeFunc fn x y) (E : opE (.mkF fn x.toList y.toList) e h nm = some (v, h2)) : Stp base nm r h w v h2 ((execOp a.eval o).run P w) := by
  simp only [opE] at E
  split at E
  · rename_i l hl
    split at E
    · rename_i m hm; cases E
      have k1 := evs_sound he hl
      have k2 := evs_sound he hm
      refine Stp.pure' R (v' := .func fn (x.map a.eval) (y.map a.eval)) (.func fn (by have := k1.1; simp at this; simpa using this) (fun i v v' q1 q2 => k1.2 i v v' (by simpa using q1) (by simpa using q2)) (by have := k2.1; simp at this; simpa using this) (fun i v v' q1 q2 => k2.2 i v v' (by simpa using q1) (by simpa using q2))) ?_
      simp [execOp, ho, Instr.makeFunc]
    · cases E
  · cases E
theorem s_fa (R : Rel base r h w) (he : EnvR r e a.tmps) (hnm : ∀ n, nm = some n → n < h.next ∧ r n = none) {t : TypeId} {fs : Array Field} {f : Field} {k n : Nat} {x : Operand} {o : Oper} (ho : o.op = .fieldAddr t x k) (ht : P.underlying t = some (.struct fs)) (hf : fs[k]? = some f) (hs : szOf P f.type = some n) (h0 : n ≠ 0) (E : opE (.fa f.offset x) e h nm = some (v, h2)) : Stp base nm r h w v h2 ((execOp a.eval o).run P w) := by
  simp only [opE] at E
  split at E
  · rename_i p hx; cases E
    obtain ⟨i, hi, rfl⟩ := info_of_szOf hs
    have q := ev_sound he hx
    generalize hq : a.eval x = y at q
    cases q with
    | ptr q =>
      rename_i p'
      obtain ⟨g1, L, g2, rfl⟩ := q
      refine Stp.pure' R (v' := .pointer (some ⟨L.b, L.o + (p.off + f.offset), none⟩)) (.ptr ⟨rfl, L, g2, rfl⟩) ?_
      simp [execOp, ho, Instr.fieldAt, run_underlying ht, hf, Instr.sureAddr, hq, fieldPlace, run_sizeOf' hi, h0]
      unfold Addr.add; split
      · rename_i h00; rw [h00]; simp
      · simp [Nat.add_assoc]
  · cases E
theorem s_ext (R : Rel base r h w) (he : EnvR r e a.tmps) (hnm : ∀ n, nm = some n → n < h.next ∧ r n = none) {x : Operand} {k : Nat} {o : Oper} (ho : o.op = .extract x k) (E : opE (.ext x k) e h nm = some (v, h2)) : Stp base nm r h w v h2 ((execOp a.eval o).run P w) := by
  simp only [opE] at E
  split at E
  · rename_i vs hx
    split at E
    · rename_i u hu; cases E
      have q := ev_sound he hx
      generalize hq : a.eval x = y at q
      cases q with
      | tuple hl q =>
        rename_i x'
        have hk : k < x'.size := by rw [← hl]; exact (Array.getElem?_eq_some_iff.1 hu).1
        have := q k _ _ hu (Array.getElem?_eq_getElem hk)
        refine Stp.pure' R this ?_
        simp [execOp, ho, Instr.extract, hq, hk]
    · cases E
  · cases E
end ops
end Go.Proofs.Ytkfjlbdedjoojaa.Am
