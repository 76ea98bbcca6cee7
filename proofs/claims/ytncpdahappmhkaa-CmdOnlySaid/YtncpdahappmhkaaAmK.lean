/- The abstract machine: steps, code, functions, and how they come from the model's. -/
import Derived.Test.YtncpdahappmhkaaAmJ
namespace Go.Proofs.Ytncpdahappmhkaa.Am
open Go
set_option linter.unusedVariables false
set_option linter.unusedSimpArgs false

inductive CK where
  | fn (f : Nat)
  | val (x : Operand)
  | inv (x : Operand) (tab : List (Nat × Nat))
inductive Step where
  | op (dst : Option Nat) (g : Option (Nat × Bool)) (i : IOp)
  | opA (dst : Option Nat) (g : Option (Nat × Bool)) (i : IOp) (k : Nat)
  | opR (dst : Option Nat) (g : Option (Nat × Bool)) (i : IOp) (k : Nat)
  | chk (dst : Nat) (g : Option (Nat × Bool)) (i : IOp)
  | call (dst : Option Nat) (g : Option (Nat × Bool)) (k : CK) (xs : List Operand)
inductive IC where
  | skip
  | ret
  | exit (id : Nat)
  | seq (a b : IC)
  | cond (c : Operand) (a b : IC)
  | block (id : Nat) (b : IC)
  | loop (keep : List Nat) (b : IC)
  | run (ss : List Step) (keep : List Nat)
  | draw (n : Nat) (ss : List Step) (keep : List Nat)
inductive RV where
  | tmp (t : Nat)
  | cell (t : Nat) (n : Option Nat)
structure IFun where
  np : Nat
  rs : List RV
  body : IC
inductive FD where
  | code (F : IFun)
  | spec (g : List Value → H → Option (Value × H))
inductive Ex where
  | norm
  | exit (id : Nat)
  | ret

abbrev CallE := Nat → List Value → H → Option (Value × H)

def put (e : Env) (d : Option Nat) (v : Value) : Env := match d with | none => e | some d => (d, v) :: e
def gd (e : Env) : Option (Nat × Bool) → Option Bool
  | none => some true
  | some (d, b) => match look e d with
    | some (.bool c) => some (c == b)
    | some (.tuple _) => some false
    | _ => none
def norm (keep : List Nat) (e : Env) : Env :=
  match keep with
  | [] => []
  | t :: ts => match look e t with
    | some v => (t, v) :: norm ts e
    | none => norm ts e
def addrOf (i : IOp) (e : Env) : Option Nat :=
  match i with
  | .ld1 x => match ev e x with | some (.pointer (some a)) => some a.block | _ => none
  | .ldN _ x => match ev e x with | some (.pointer (some a)) => some a.block | _ => none
  | .cvB x => match ev e x with | some (.slice (some a) _ _) => some a.block | _ => none
  | _ => none
def sameA (a b : Addr) : Bool := a.block == b.block && a.off == b.off && a.spot == b.spot
def same1 : Value → Value → Bool
  | .bool a, .bool b => a == b
  | .int k a, .int k' b => decide (k = k') && a == b
  | .string a, .string b => a.data.toList == b.data.toList
  | .pointer none, .pointer none => true
  | .pointer (some a), .pointer (some b) => sameA a b
  | .slice none n c, .slice none n' c' => n == n' && c == c'
  | .slice (some a) n c, .slice (some b) n' c' => sameA a b && n == n' && c == c'
  | .nilIface, .nilIface => true
  | .nilFunc, .nilFunc => true
  | _, _ => false
def sameL : List Value → List Value → Bool
  | [], [] => true
  | a :: x, b :: y => same1 a b && sameL x y
  | _, _ => false
def sameV (x y : Value) : Bool :=
  match x, y with
  | .agg a, .agg b => sameL a.toList b.toList
  | x, y => same1 x y

def findC : List (Nat × Nat) → Nat → Option Nat
  | [], _ => none
  | (t, f) :: l, n => if t = n then some f else findC l n
/-- Whom a call reaches, with what. -/
def whom (k : CK) (e : Env) (vs : List Value) : Option (Nat × List Value) :=
  match k with
  | .fn f => some (f, vs)
  | .val x => match ev e x with
    | some (.func (.func f) first cap) => some (f, first.toList ++ vs ++ cap.toList)
    | _ => none
  | .inv x tab => match ev e x with
    | some (.iface t v) => match findC tab t with
      | some f => some (f, v :: vs)
      | none => none
    | _ => none

def stepE (call : CallE) (rb : Nat) (s : Step) (e : Env) (h : H) : Option (Env × H) :=
  match s with
  | .op d g i => match gd e g with
    | some true => match opE i e h none with
      | some (v, h2) => some (put e d v, h2)
      | none => none
    | some false => some (put e d undef, h)
    | none => none
  | .opA d g i k => match gd e g with
    | some true => match opE i e h (some (rb + k)) with
      | some (v, h2) => some (put e d v, h2)
      | none => none
    | some false => some (put e d undef, h)
    | none => none
  | .opR d g i k => match gd e g with
    | some true => match addrOf i e with
      | some n => if n = rb + k then match opE i e h none with
        | some (v, _) => some (put e d v, h)
        | none => none else none
      | none => none
    | some false => some (put e d undef, h)
    | none => none
  | .chk d g i => match gd e g with
    | some true => match opE i e h none with
      | some (v, _) => match look e d with
        | some u => if sameV u v = true then some (e, h) else none
        | none => none
      | none => none
    | some false => some (e, h)
    | none => none
  | .call d g k xs => match gd e g with
    | some true => match evs e xs with
      | some vs => match whom k e vs with
        | some (f, us) => match call f us h with
          | some (v, h2) => some (put e d v, h2)
          | none => none
        | none => none
      | none => none
    | some false => some (put e d undef, h)
    | none => none
def stepsE (call : CallE) (rb : Nat) : List Step → Env → H → Option (Env × H)
  | [], e, h => some (e, h)
  | s :: ss, e, h => match stepE call rb s e h with
    | some (e2, h2) => stepsE call rb ss e2 h2
    | none => none
def loopE (body : Env → H → Option (Ex × Env × H)) (keep : List Nat) : Nat → Env → H → Option (Ex × Env × H)
  | 0, _, _ => none
  | n + 1, e, h => match body (norm keep e) h with
    | some (.norm, e2, h2) => loopE body keep n e2 h2
    | some (x, e2, h2) => some (x, e2, h2)
    | none => none
def codeE (call : CallE) (n : Nat) : IC → Env → H → Option (Ex × Env × H)
  | .skip, e, h => some (.norm, e, h)
  | .ret, e, h => some (.ret, e, h)
  | .exit id, e, h => some (.exit id, e, h)
  | .seq a b, e, h => match codeE call n a e h with
    | some (.norm, e2, h2) => codeE call n b e2 h2
    | some (x, e2, h2) => some (x, e2, h2)
    | none => none
  | .cond c a b, e, h => match ev e c with
    | some (.bool true) => codeE call n a e h
    | some (.bool false) => codeE call n b e h
    | _ => none
  | .block id b, e, h => match codeE call n b e h with
    | some (.exit j, e2, h2) => if j = id then some (.norm, e2, h2) else some (.exit j, e2, h2)
    | some (x, e2, h2) => some (x, e2, h2)
    | none => none
  | .loop keep b, e, h => loopE (codeE call n b) keep n e h
  | .run ss keep, e, h => match stepsE call 0 ss e h with
    | some (e2, h2) => some (.norm, norm keep e2, h2)
    | none => none
  | .draw m ss keep, e, h => match stepsE call h.next ss e (h.up m) with
    | some (e2, h2) => some (.norm, norm keep e2, h2)
    | none => none
def resE : List RV → Env → H → Option (List Value)
  | [], _, _ => some []
  | .tmp t :: rs, e, h => match look e t with
    | some v => match resE rs e h with
      | some vs => some (v :: vs)
      | none => none
    | none => none
  | .cell t n :: rs, e, h => match look e t with
    | some (.pointer (some a)) => match (match n with | none => h.ld a | some n => match h.lds a n with | some vs => some (.agg vs.toArray) | none => none) with
      | some v => match resE rs e h with
        | some vs => some (v :: vs)
        | none => none
      | none => none
    | _ => none
def packE : List Value → Value
  | [v] => v
  | vs => .tuple vs.toArray
def mkEnv : Nat → List Value → Env
  | _, [] => []
  | k, v :: vs => (k, v) :: mkEnv (k + 1) vs
def runE (tab : Nat → Option FD) : Nat → CallE
  | 0, _, _, _ => none
  | n + 1, f, us, h => match tab f with
    | some (.code F) => if us.length = F.np then match codeE (runE tab n) n F.body (mkEnv 0 us) h with
      | some (.norm, e2, h2) => match resE F.rs e2 h2 with
        | some vs => some (packE vs, h2)
        | none => none
      | some (.ret, e2, h2) => match resE F.rs e2 h2 with
        | some vs => some (packE vs, h2)
        | none => none
      | _ => none else none
    | some (.spec g) => g us h
    | none => none

/-! ### From the model's code -/
/-- How a region that draws its order is gone through. -/
inductive DI where
  | op (i : Nat)
  | opA (i : Nat)
  | opR (i k : Nat)
  | chk (i : Nat)
inductive Hint where
  | keep (l : List Nat)
  | draw (o : List DI) (l : List Nat)

def mtab (P : Program) (name : String) : List (Nat × Nat) :=
  (List.range P.types.size).filterMap fun t => match P.info? t with
    | some i => match i.methods.find? (·.name == name) with
      | some m => match m.func with
        | some (f, true) => if m.path.isEmpty then (match P.underlying t with | some (.pointer _) => some (t, f) | _ => none) else none
        | _ => none
      | none => none
    | none => none
def guardC (ops : Array Oper) (o : Oper) : Option (Option (Nat × Bool)) :=
  match o.guard with
  | none => some none
  | some (j, b) => match ops[j]? with
    | some p => match p.dst with
      | some d => some (some (d, b))
      | none => none
    | none => none
def okDst (N : Nat) : Option Nat → Bool
  | none => true
  | some d => decide (d < N)
def callC (P : Program) (c : Call) : Option CK :=
  match c.callee with
  | .value (.func f) => some (.fn f)
  | .value x => some (.val x)
  | .invoke x name => some (.inv x (mtab P name))
  | .builtin _ => none
def isCallO (o : Oper) : Option Call :=
  match o.op with
  | .call c => match c.callee with | .builtin _ => none | _ => some c
  | _ => none
/-- The method whose value a temporary of the region holds. -/
def methOf : List Oper → Nat → Option String
  | [], _ => none
  | o :: os, t => if o.dst = some t then match o.op with
    | .makeFunc (.method n) _ _ => some n
    | _ => none else methOf os t
def nckC (P : Program) (ops : Array Oper) (o : Op) : Option IOp :=
  match o with
  | .nilCheck (.tmp t) => match methOf ops.toList t with
    | some n => some (.nckM n ((mtab P n).map (·.1)) (.tmp t))
    | none => some (.nck (.tmp t))
  | _ => some ((compOp P o).getD .bad)
def compStep (P : Program) (N : Nat) (ops : Array Oper) (o : Oper) : Option Step :=
  if okDst N o.dst = true then match guardC ops o with
    | some g => match isCallO o with
      | some c => match callC P c with
        | some k => some (.call o.dst g k c.args.toList)
        | none => none
      | none => match nckC P ops o.op with
        | some i => some (.op o.dst g i)
        | none => none
    | none => none
  else none
def compSteps (P : Program) (N : Nat) (ops : Array Oper) : List Oper → Option (List Step)
  | [] => some []
  | o :: os => match compStep P N ops o with
    | some s => match compSteps P N ops os with
      | some ss => some (s :: ss)
      | none => none
    | none => none
def compDI (P : Program) (N : Nat) (ops : Array Oper) : List DI → Option (List Step)
  | [] => some []
  | d :: ds => match compDI P N ops ds with
    | none => none
    | some ss => match d with
      | .op i => match ops[i]? with
        | some o => match compStep P N ops o with
          | some s => some (s :: ss)
          | none => none
        | none => none
      | .opA i => match ops[i]? with
        | some o => match compStep P N ops o with
          | some (.op d g j) => some (.opA d g j i :: ss)
          | _ => none
        | none => none
      | .opR i k => match ops[i]? with
        | some o => match compStep P N ops o with
          | some (.op d g j) => some (.opR d g j k :: ss)
          | _ => none
        | none => none
      | .chk i => match ops[i]? with
        | some o => match compStep P N ops o with
          | some (.op (some d) g j) => some (.chk d g j :: ss)
          | _ => none
        | none => none
def tO : Operand → List Nat
  | .tmp t => [t]
  | _ => []
def tOp : Option Operand → List Nat
  | some x => tO x
  | none => []
def tL : List Operand → List Nat
  | [] => []
  | x :: xs => tO x ++ tL xs
def tP : List (Nat × Nat × Operand) → List Nat
  | [] => []
  | (_, _, x) :: xs => tO x ++ tP xs
def tI : IOp → List Nat
  | .mov x | .box x | .ld1 x | .ldN _ x | .nck x | .nckM _ _ x | .un _ x | .cvI _ x | .cvS x | .cvB x | .cvY x | .mkI _ x | .fa _ x | .fd _ _ x | .ext x _ | .lenS x | .lenV x | .clr _ _ x | .capV x => tO x
  | .pick c a b => tO c ++ (tO a ++ tO b)
  | .new _ | .lenC _ | .bad => []
  | .build _ ps | .bsl _ _ _ ps => tP ps
  | .st _ x y | .bin _ x y | .eqq _ _ x y | .mkS _ _ _ x y | .iaV _ x y | .iaA _ _ x y | .ixS x y | .ixA _ _ _ x y | .mm _ x y | .app _ _ x y | .apz _ _ x y | .cpy _ x y => tO x ++ tO y
  | .mkF _ fs cs => tL fs ++ tL cs
  | .slS x lo hi => tO x ++ (tOp lo ++ tOp hi)
  | .slV _ x lo hi mx | .slA _ _ x lo hi mx => tO x ++ (tOp lo ++ (tOp hi ++ tOp mx))

/-- Kinds of operations: they look at no memory (0), look at it (1), make a block (2), or act (3). -/
def kI : IOp → Nat
  | .ld1 _ | .ldN _ _ | .cvB _ | .slV _ _ _ _ _ => 1
  | .new _ | .box _ | .bsl _ _ _ _ | .mkS _ _ _ _ _ | .cvY _ => 2
  | .st _ _ _ | .app _ _ _ _ | .apz _ _ _ _ | .cpy _ _ _ | .clr _ _ _ => 3
  | _ => 0

def tG : Option (Nat × Bool) → List Nat
  | none => []
  | some (d, _) => [d]
def tC : CK → List Nat
  | .fn _ => []
  | .val x => tO x
  | .inv x _ => tO x
def tS : Step → List Nat
  | .op _ g i => tG g ++ tI i
  | .opA _ g i _ => tG g ++ tI i
  | .opR _ g i _ => tG g ++ tI i
  | .chk d g i => tG g ++ tI i
  | .call _ g k xs => tG g ++ (tC k ++ tL xs)
def dS : Step → Option Nat
  | .op d _ _ => d
  | .opA d _ _ _ => d
  | .opR d _ _ _ => d
  | .chk _ _ _ => none
  | .call d _ _ _ => d
/-- An item of a region's order: the operation's number, its kind (5: it is looked at once more), and for a look into a new block the number of what made it. -/
structure It where
  i : Nat
  k : Nat
  q : Nat
  s : Step
def itOf (d : DI) (s : Step) : Option It :=
  match d, s with
  | .op i, .op d g j => if kI j = 2 then none else some ⟨i, kI j, 0, .op d g j⟩
  | .op i, .call d g c xs => some ⟨i, 3, 0, .call d g c xs⟩
  | .opA i, .opA d g j m => if kI j = 2 then some ⟨i, 2, 0, .opA d g j m⟩ else none
  | .opR i q, .opR d g j m => if kI j = 1 then some ⟨i, 4, q, .opR d g j m⟩ else none
  | .chk i, .chk d g j => some ⟨i, 5, 0, .chk d g j⟩
  | _, _ => none
def itsOf : List DI → List Step → Option (List It)
  | [], [] => some []
  | d :: ds, s :: ss => match itOf d s with
    | some x => match itsOf ds ss with
      | some xs => some (x :: xs)
      | none => none
    | none => none
  | _, _ => none
/-- What stands before each operation, as bits. -/
def befs (ops : Array Oper) : Array Nat := Region.before ops
def isBef (b : Array Nat) (i j : Nat) : Bool := (b.getD j 0).testBit i
def apartS (x y : Step) : Bool :=
  (match dS x with
   | some d => !(tS y).contains d && dS y != some d
   | none => true) &&
  (match dS y with
   | some d => !(tS x).contains d
   | none => true)
def pairOK (b : Array Nat) (x y : It) : Bool :=
  x.k == 5 || y.k == 5 ||
  (x.i != y.i && !isBef b y.i x.i && (isBef b x.i y.i || apartS x.s y.s) &&
    (!((x.k == 3 && y.k == 3) || (x.k == 2 && y.k == 3) || (x.k == 3 && y.k == 1) || (x.k == 2 && y.k == 1)) || isBef b x.i y.i) &&
    (!(x.k == 1) || (match dS y.s with | some d => !(tS x.s).contains d && dS x.s != some d | none => true)) &&
    (!(y.k == 4 && x.k == 3) || !isBef b y.q x.i || isBef b y.i x.i) &&
    (!(x.k == 4 && y.k == 3) || !isBef b x.q y.i || isBef b x.i y.i))
def pairsOK (b : Array Nat) : List It → Bool
  | [] => true
  | x :: xs => xs.all (pairOK b x) && pairsOK b xs
def chkIn (i : Nat) : List It → Bool
  | [] => false
  | y :: ys => y.k == 5 && (y.i == i || chkIn i ys)
def chksOK (b : Array Nat) : List It → List It → Bool
  | _, [] => true
  | pre, y :: ys => (!(y.k == 3) || pre.all fun x => !(x.k == 1) || isBef b x.i y.i || chkIn x.i ys) && chksOK b (y :: pre) ys
def itemOK (b : Array Nat) (n : Nat) (its : List It) (x : It) : Bool :=
  x.i < n && (!(x.k == 1) || (match dS x.s with | some d => !(tS x.s).contains d | none => true)) && (!(x.k == 4) || (isBef b x.q x.i && its.any fun y => y.k == 2 && y.i == x.q))
def edgesOK (ops : Array Oper) : Bool := (List.range ops.size).all fun i => match ops[i]? with
  | some o => o.after.toList.all fun e => !Region.binds .any e || decide (e.on < i)
  | none => false
/-- May the region be gone through so? -/
def okDraw (P : Program) (N : Nat) (ops : Array Oper) (ds : List DI) (ss : List Step) : Bool :=
  match itsOf ds ss with
  | some its => let b := befs ops
    edgesOK ops && pairsOK b its && chksOK b [] its && its.all (itemOK b ops.size its) && (List.range ops.size).all fun i => its.any fun x => x.k != 5 && x.i == i
  | none => false

def comp (P : Program) (N : Nat) : Code → List Hint → Option (IC × List Hint)
  | .skip, hs => some (.skip, hs)
  | .ret, hs => some (.ret, hs)
  | .exit id, hs => some (.exit id, hs)
  | .seq a b, hs => match comp P N a hs with
    | some (x, hs) => match comp P N b hs with
      | some (y, hs) => some (.seq x y, hs)
      | none => none
    | none => none
  | .cond c a b, hs => match comp P N a hs with
    | some (x, hs) => match comp P N b hs with
      | some (y, hs) => some (.cond c x y, hs)
      | none => none
    | none => none
  | .block id b, hs => match comp P N b hs with
    | some (x, hs) => some (.block id x, hs)
    | none => none
  | .loop b, hs => match hs with
    | .keep l :: hs => match comp P N b hs with
      | some (x, hs) => some (.loop l x, hs)
      | none => none
    | _ => none
  | .region _ ops false, hs => match hs with
    | .keep l :: hs => match compSteps P N ops ops.toList with
      | some ss => some (.run ss l, hs)
      | none => none
    | _ => none
  | .region _ ops true, hs => match hs with
    | .draw ds l :: hs => match compDI P N ops ds with
      | some ss => if okDraw P N ops ds ss = true then some (.draw ops.size ss l, hs) else none
      | none => none
    | _ => none
  | _, _ => none
def compRV (P : Program) (r : ResultVar) : Option RV :=
  match r with
  | .tmp t => some (.tmp t)
  | .cell t ty => match szOf P ty, P.underlying ty with
    | some n, some (.struct _) => some (.cell t (some n))
    | some n, some (.array _ _) => some (.cell t (some n))
    | some _, some _ => some (.cell t none)
    | _, _ => none
def compRVs (P : Program) : List ResultVar → Option (List RV)
  | [] => some []
  | r :: rs => match compRV P r with
    | some x => match compRVs P rs with
      | some xs => some (x :: xs)
      | none => none
    | none => none
def compF (P : Program) (f : Nat) (hs : List Hint) : Option IFun :=
  match P.funcs[f]? with
  | some fn => if (fn.name == "runtime.NumGoroutine") = false ∧ fn.params.size + fn.nfree ≤ fn.ntmps then match fn.body with
    | some c => match comp P fn.ntmps c hs with
      | some (x, []) => match compRVs P fn.results.toList with
        | some rs => some ⟨fn.params.size + fn.nfree, rs, x⟩
        | none => none
      | _ => none
    | none => none else none
  | none => none
end Go.Proofs.Ytncpdahappmhkaa.Am
