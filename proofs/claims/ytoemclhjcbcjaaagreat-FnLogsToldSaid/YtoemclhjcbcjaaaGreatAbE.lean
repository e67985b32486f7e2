/- Operations without addresses: what a function's text is turned into, and what each operation makes of the slots. -/
import Derived.Test.YtoemclhjcbcjaaaGreatAbD
namespace Go.Proofs.YtoemclhjcbcjaaaGreat.AB
open Go

/-- what must be known of a type -/
inductive Ty where
  | int (k : IntKind)
  | bool
  | str
  | slice (e : Nat)
  | struct (fs : List (Nat × Nat × Bool))
  | arr (n e : Nat)
  | ptr (e : Nat)
  | func
  deriving DecidableEq
def Ty.isAgg : Ty → Bool
  | .struct _ | .arr _ _ => true
  | _ => false
/-- the kinds of flat cells -/
inductive Kd where
  | i | b | s
  deriving DecidableEq
structure TI where
  u : Ty
  size : Nat
  bytes : Nat
  zero : List Value
  eqk : List Kd := []
def Kd.fits : Kd → Value → Value → Bool
  | .i, .int k _, .int j _ => k == j
  | .b, .bool _, .bool _ => true
  | .s, .string _, .string _ => true
  | _, _, _ => false
def Kd.fitsL : List Kd → List Value → List Value → Bool
  | [], [], [] => true
  | q :: ks, u :: us, v :: vs => Kd.fits q u v && Kd.fitsL ks us vs
  | _, _, _ => false

def valEq : Value → Value → Bool
  | .int k n, .int j m => k == j && n == m
  | .bool a, .bool b => a == b
  | .string a, .string b => a.data.toList == b.data.toList
  | .slice none 0 0, .slice none 0 0 => true
  | .pointer none, .pointer none => true
  | .nilFunc, .nilFunc => true
  | _, _ => false
theorem valEq_eq {a b : Value} (h : valEq a b = true) : a = b := by
  unfold valEq at h
  split at h <;> simp_all
  rename_i a b
  cases a; cases b; simp at h; simp [h]
def valsEq : List Value → List Value → Bool
  | [], [] => true
  | a :: x, b :: y => valEq a b && valsEq x y
  | _, _ => false
theorem valsEq_eq : ∀ {a b : List Value}, valsEq a b = true → a = b
  | [], [], _ => rfl
  | _ :: _, _ :: _, h => by simp only [valsEq, Bool.and_eq_true] at h; rw [valEq_eq h.1, valsEq_eq h.2]
  | [], _ :: _, h => by simp [valsEq] at h
  | _ :: _, [], h => by simp [valsEq] at h

def aggOf (P : Program) (t : TypeId) : Bool :=
  match P.underlying t with
  | some (.struct _) | some (.array _ _) => true
  | _ => false
def sizeAt (P : Program) (t : TypeId) : Nat := ((P.info? t).map (·.size)).getD 0

def tyOk (P : Program) (t : TypeId) : Ty → Bool
  | .int k => match P.underlying t with | some (.int j) => j == k | _ => false
  | .bool => match P.underlying t with | some .bool => true | _ => false
  | .str => match P.underlying t with | some .string => true | _ => false
  | .slice e => match P.underlying t with | some (.slice f) => f == e | _ => false
  | .struct fs => match P.underlying t with
    | some (.struct gs) => (gs.toList.map fun f => (f.offset, sizeAt P f.type, aggOf P f.type)) == fs && gs.toList.all fun f => (P.info? f.type).isSome && (P.underlying f.type).isSome && sizeAt P f.type != 0
    | _ => false
  | .arr n e => match P.underlying t with | some (.array m f) => m == n && f == e && (P.info? e).isSome && (P.underlying e).isSome | _ => false
  | .ptr e => match P.underlying t with | some (.pointer f) => f == e | _ => false
  | .func => match P.underlying t with | some (.func ..) => true | _ => false
/-- the flat cells of a struct's fields -/
def flatFs (P : Program) (go : TypeId → Option (List Kd)) : List Field → Nat → Option (List Kd)
  | [], _ => some []
  | f :: r, o => if f.name == "_" || f.offset != o then none else
    match go f.type with
    | none => none
    | some ks => if ks.length != sizeAt P f.type || (P.info? f.type).isNone || (!aggOf P f.type && ks.length != 1) then none else
      match flatFs P go r (o + ks.length) with
      | none => none
      | some ls => some (ks ++ ls)
/-- the flat cells of a type, if '==' goes cell by cell -/
def flatK (P : Program) : Nat → TypeId → Option (List Kd)
  | 0, _ => none
  | q + 1, t => match P.underlying t with
    | some .bool => some [.b]
    | some (.int _) => some [.i]
    | some .string => some [.s]
    | some (.struct fs) => if P.stoodInHeld t then none else flatFs P (flatK P q) fs.toList 0
    | _ => none
def eqkOk (P : Program) (t : TypeId) (ks : List Kd) : Bool :=
  ks.isEmpty || (flatK P 20 t == some ks && !P.eqGuardType P.depth t && aggOf P t)
def tiOk (P : Program) (t : TypeId) (i : TI) : Bool :=
  tyOk P t i.u && (match P.info? t with
    | some j => j.size == i.size && j.bytes == i.bytes && (match j.zero with | some z => valsEq z.cells.toList i.zero && (z matches .agg _) == i.u.isAgg | none => false) && eqkOk P t i.eqk
    | none => false)

/-- the types; and the functions that write what they are handed -/
structure Tab where
  rows : List (Nat × TI)
  muts : List Nat
def atL : List (Nat × TI) → Nat → Option TI
  | [], _ => none
  | (k, i) :: r, t => if k = t then some i else atL r t
def Tab.at (T : Tab) (t : Nat) : Option TI := atL T.rows t
/-- the table tells of the program's types what is so -/
def Tab.ok (P : Program) (T : Tab) : Bool := T.rows.all fun p => tiOk P p.1 p.2

inductive SOp where
  | mv (x : Operand)
  | pick (c a b : Operand)
  | box (x : Operand)
  | zbox (z : List Value)
  | load1 (x : Operand)
  | loadn (n : Nat) (x : Operand)
  | fad (x : Operand) (off : Nat)
  | fld1 (x : Operand) (off : Nat)
  | fldn (x : Operand) (off n : Nat)
  | iad (x i : Operand) (sz : Nat)
  | iada (x i : Operand) (len sz : Nat)
  | sidx (x i : Operand)
  | aidx (x i : Operand) (len : Nat)
  | sls (x : Operand) (lo hi : Option Operand)
  | slc (x : Operand) (lo hi : Option Operand) (sz : Nat)
  | bin (isB : Bool) (op : BinOp) (x y : Operand)
  | eqa (neg : Bool) (ks : List Kd) (x y : Operand)
  | un (op : UnOp) (x : Operand)
  | cvi (k : IntKind) (x : Operand)
  | cvss (x : Operand)
  | cvbs (x : Operand)
  | cvsb (e : Nat) (x : Operand)
  | mks (e sz bytes : Nat) (zero : List Value) (n : Operand)
  | bsl (e sz len : Nat) (parts : List Operand)
  | bld (zero : List Value) (parts : List (Nat × Nat × Operand))
  | ext (x : Operand) (i : Nat)
  | lens (x : Operand)
  | len (x : Operand)
  | mx (x y : Operand)
  | mn (x y : Operand)
  | mkf (f : Nat) (caps : List Operand)
  | nilc (x : Operand)
  | call (f : Nat) (args : List Operand)
  | callv (x : Operand) (args : List Operand)
  | callm (f : Nat) (args : List Operand)
  | store (n : Nat) (x v : Operand)
  | app (e sz bytes : Nat) (s x : Operand)

structure GOp where
  dst : Option Nat
  op : SOp
  guard : Option (Nat × Bool)

/-- the parts in order, from the k-th on -/
def inOrder : Nat → List (Nat × Operand) → Option (List Operand)
  | _, [] => some []
  | k, (i, x) :: r => if i = k then (inOrder (k + 1) r).map (x :: ·) else none

def fieldOf (T : Tab) (t f : Nat) : Option (Nat × Nat × Bool) :=
  match T.at t with
  | some { u := .struct fs, .. } => fs[f]?
  | _ => none

def compFn (fn : Fn) (first caps : Array Operand) : Option SOp :=
  match fn with
  | .func f => if first.size = 0 then some (.mkf f caps.toList) else none
  | _ => none
def compB (T : Tab) (b : Builtin) (xs : List Operand) (ts : List TypeId) : Option SOp :=
  match b with
  | .len => (match xs, ts with
    | [x], [t] => (match T.at t with
      | some i => (match i.u with
        | .str => some (.lens x)
        | .slice _ => some (.len x)
        | _ => none)
      | none => none)
    | _, _ => none)
  | .max => (match xs with | [x, y] => some (.mx x y) | _ => none)
  | .min => (match xs with | [x, y] => some (.mn x y) | _ => none)
  | .append => (match xs, ts with
    | [s, x], [t, u] => if t = u then (match T.at t with
      | some i => (match i.u with
        | .slice e => (T.at e).map fun j => .app e j.size j.bytes s x
        | _ => none)
      | none => none) else none
    | _, _ => none)
  | _ => none
def compCall (T : Tab) (c : Call) : Option SOp :=
  match c.callee with
  | .builtin b => compB T b c.args.toList c.argTypes.toList
  | .value (.func f) => if T.muts.contains f then some (.callm f c.args.toList) else some (.call f c.args.toList)
  | .value x => some (.callv x c.args.toList)
  | _ => none
def compOp (T : Tab) : Op → Option SOp
  | .move x | .assign x => some (.mv x)
  | .pick c a b => some (.pick c a b)
  | .box _ x => some (.box x)
  | .alloc e => match T.at e with | some i => some (.zbox i.zero) | none => none
  | .load t x => match T.at t with | some i => if i.u.isAgg then some (.loadn i.size x) else some (.load1 x) | none => none
  | .store t x v => match T.at t with | some i => some (.store i.size x v) | none => none
  | .nilCheck x => some (.nilc x)
  | .binOp op t x y _ => match T.at t with
    | some i => if i.u.isAgg then (if i.eqk.isEmpty then none else match op with | .eql => some (.eqa false i.eqk x y) | .neq => some (.eqa true i.eqk x y) | _ => none) else some (.bin (i.u == .bool) op x y)
    | none => none
  | .unOp op _ x => some (.un op x)
  | .convert s d x => match T.at s, T.at d with
    | some i, some j => (match i.u, j.u with
      | .int _, .int k => some (.cvi k x)
      | .str, .str => some (.cvss x)
      | .slice e, .str => (match T.at e with | some { u := .int .u8, .. } => some (.cvbs x) | _ => none)
      | .str, .slice e => (match T.at e with | some { u := .int .u8, .. } => some (.cvsb e x) | _ => none)
      | _, _ => none)
    | _, _ => none
  | .makeFunc fn first caps => compFn fn first caps
  | .makeSlice t l c => match T.at t with
    | some { u := .slice e, .. } => (match T.at e, l, c with
      | some i, .tmp x, .tmp y => if x = y then some (.mks e i.size i.bytes i.zero l) else none
      | some i, .const (.int .i64 x), .const (.int .i64 y) => if x = y then some (.mks e i.size i.bytes i.zero l) else none
      | _, _, _ => none)
    | _ => none
  | .buildSlice t n ps => match T.at t with
    | some { u := .slice e, .. } => (match T.at e, inOrder 0 ps.toList with
      | some i, some xs => if xs.length = n ∧ n * i.size ≤ 16777216 ∧ 0 < i.size then some (.bsl e i.size n xs) else none
      | _, _ => none)
    | _ => none
  | .build t ps => match T.at t with
    | some { u := .struct fs, zero := z, .. } => (ps.toList.mapM fun (p : Nat × Operand) => (fs[p.1]?).map fun f => (f.1, f.2.1, p.2)).map (SOp.bld z)
    | some { u := .arr _ e, zero := z, .. } => match T.at e with
      | some i => some (.bld z (ps.toList.map fun (p : Nat × Operand) => (p.1 * i.size, i.size, p.2)))
      | none => none
    | _ => none
  | .fieldAddr t x f => (fieldOf T t f).map fun p => .fad x p.1
  | .field t x f => (fieldOf T t f).map fun p => if p.2.2 then .fldn x p.1 p.2.1 else .fld1 x p.1
  | .indexAddr t x i => match T.at t with
    | some { u := .slice e, .. } => (T.at e).map fun j => .iad x i j.size
    | some { u := .arr n e, .. } => (T.at e).map fun j => .iada x i n j.size
    | _ => none
  | .index t x i => match T.at t with
    | some { u := .str, .. } => some (.sidx x i)
    | some { u := .arr n e, .. } => (match T.at e with | some j => if j.u.isAgg then none else if j.size = 1 then some (.aidx x i n) else none | none => none)
    | _ => none
  | .slice t x lo hi mx => match mx, T.at t with
    | none, some { u := .str, .. } => some (.sls x lo hi)
    | none, some { u := .slice e, .. } => (T.at e).map fun j => .slc x lo hi j.size
    | _, _ => none
  | .extract x i => some (.ext x i)
  | .call c => compCall T c
  | _ => none

inductive SC where
  | skip
  | ops (draw : Bool) (l : List GOp)
  | seq (a b : SC)
  | cond (c : Operand) (a b : SC)
  | block (id : Nat) (b : SC)
  | loop (b : SC)
  | exit (id : Nat)
  | ret

def SOp.isStore : SOp → Bool
  | .store .. => true
  | _ => false
def SOp.isApp : SOp → Bool
  | .app .. => true
  | _ => false
/-- is it a call; which function it calls, with what -/
def SOp.isCall : SOp → Bool
  | .call .. => true
  | _ => false
def SOp.isCallM : SOp → Bool
  | .callv .. => true
  | .callm .. => true
  | _ => false
/-- what an operation looks at -/
def SOp.opds : SOp → List Operand
  | .mv x => [x]
  | .pick c a b => [c, a, b]
  | .box x => [x]
  | .zbox _ => []
  | .load1 x => [x]
  | .loadn _ x => [x]
  | .fad x _ => [x]
  | .fld1 x _ => [x]
  | .fldn x _ _ => [x]
  | .iad x i _ => [x, i]
  | .iada x i _ _ => [x, i]
  | .sidx x i => [x, i]
  | .aidx x i _ => [x, i]
  | .sls x lo hi => x :: (lo.toList ++ hi.toList)
  | .slc x lo hi _ => x :: (lo.toList ++ hi.toList)
  | .bin _ _ x y => [x, y]
  | .eqa _ _ x y => [x, y]
  | .un _ x => [x]
  | .cvi _ x => [x]
  | .cvss x => [x]
  | .cvbs x => [x]
  | .cvsb _ x => [x]
  | .mks _ _ _ _ n => [n]
  | .bsl _ _ _ ps => ps
  | .bld _ ps => ps.map (·.2.2)
  | .ext x _ => [x]
  | .lens x => [x]
  | .len x => [x]
  | .mx x y => [x, y]
  | .mn x y => [x, y]
  | .mkf _ ps => ps
  | .nilc x => [x]
  | .call _ ps => ps
  | .callv x ps => x :: ps
  | .callm _ ps => ps
  | .store _ x v => [x, v]
  | .app _ _ _ s x => [s, x]

def SOp.quiet (so : SOp) : Bool := !so.isStore && !so.isApp && !so.isCallM
def tmpOf : Operand → Option Nat
  | .tmp t => some t
  | _ => none
/-- the slots that an operation looks at -/
def GOp.reads (g : GOp) : List Nat := (match g.guard with | some (t, _) => [t] | none => []) ++ g.op.opds.filterMap tmpOf
/-- two operations that may change places -/
def GOp.apart (g k : GOp) : Bool :=
  g.op.quiet && k.op.quiet && (match g.dst, k.dst with
    | some d, some e => d != e && !(g.reads.contains e) && !(k.reads.contains d)
    | _, _ => false)

def depsOf (ops : Array Oper) (i : Nat) : List Nat := match ops[i]? with
  | some o => (o.after.toList.filter (Region.binds .any ·)).map (·.on)
  | none => []
def reach (deps : Nat → List Nat) : Nat → Nat → Nat → Bool
  | 0, _, _ => false
  | f + 1, j, i => (deps i).contains j || (deps i).any fun e => decide (j < e) && reach deps f j e
def GOp.idle : GOp := ⟨none, .zbox [], none⟩
/-- any two operations are in order, or may change places -/
def ordB (deps : Nat → List Nat) (gs : List GOp) : Bool :=
  (List.range gs.length).all fun i => (deps i).all (fun e => decide (e < i)) && (List.range i).all fun j => reach deps gs.length j i || (gs[j]?.getD .idle).apart (gs[i]?.getD .idle)


/-- a list without one, if what stands ahead of it may change places with it -/
def pullI (gs : List GOp) (i : Nat) : List Nat → Option (List Nat)
  | [] => none
  | j :: r => if j = i then some r else if (gs[j]?.getD .idle).apart (gs[i]?.getD .idle) then (pullI gs i r).map (j :: ·) else none
/-- whatever order comes, one of these is it -/
def famB (deps : Nat → List Nat) (gs : List GOp) : Nat → List Nat → List (List Nat) → Bool
  | 0, _, fam => !fam.isEmpty && fam.all (·.isEmpty)
  | n + 1, rem, fam => rem.any (fun i => (deps i).all fun e => decide (e < gs.length) && !rem.contains e) && rem.all fun i => !((deps i).all fun e => decide (e < gs.length) && !rem.contains e) || famB deps gs n (rem.filter (· != i)) (fam.filterMap (pullI gs i))
/-- a store goes ahead, step by step -/
def ahead (gs : List GOp) (b : Nat) : List Nat → List Nat → List (List Nat)
  | [], _ => []
  | p :: rp, post => if (match (gs[p]?.getD .idle).dst with | some d => (gs[b]?.getD .idle).reads.contains d | none => true) then [] else (rp.reverse ++ b :: p :: post) :: ahead gs b rp (p :: post)
def storeAt : List GOp → Nat → Option Nat
  | [], _ => none
  | g :: r, k => if g.op.isStore then some k else storeAt r (k + 1)
/-- the orders that are looked at -/
def ordsI (gs : List GOp) : List (List Nat) := List.range gs.length :: (match storeAt gs 0 with
  | some b => ahead gs b (List.range b).reverse ((List.range gs.length).drop (b + 1))
  | none => [])
def ordsL (gs : List GOp) : List (List GOp) := (ordsI gs).map (List.map fun i => gs[i]?.getD .idle)
/-- a region of no calls in which a store may go ahead of what stands before it -/
def someB (gs : List GOp) : Bool := gs.all (fun g => !g.op.isCall && !g.op.isCallM) && (match storeAt gs 0 with
  | some b => !(ahead gs b (List.range b).reverse []).isEmpty
  | none => false)
/-- whether some orders are enough -/
def ordB2 (deps : Nat → List Nat) (gs : List GOp) : Bool := gs.all (fun g => !g.op.isCall && !g.op.isCallM) && famB deps gs gs.length (List.range gs.length) (ordsI gs)

/-- it turns a slot, and asks nothing of memory -/
def SOp.dry : SOp → Bool
  | .mv _ => true
  | .ext _ _ => true
  | .sls _ _ _ => true
  | .bin _ _ _ _ => true
  | _ => false
def opDry : Op → Bool
  | .move _ => true
  | .assign _ => true
  | .extract _ _ => true
  | .slice .. => true
  | .binOp .. => true
  | _ => false
def GOp.dry (ops : Array Oper) (i : Nat) (g : GOp) : Bool := g.op.dry && g.guard.isNone && g.dst.isSome && (match ops[i]? with | some o => opDry o.op | none => false)
def rdy (ops : Array Oper) (n : Nat) (rem : List Nat) (i : Nat) : Bool := (depsOf ops i).all fun e => decide (e < n) && !rem.contains e
/-- an order in which what turns slots alone goes ahead -/
def sched (ops : Array Oper) (gs : List GOp) : Nat → List Nat → List Nat
  | 0, _ => []
  | n + 1, rem => match rem.find? (fun i => (gs[i]?.getD .idle).dry ops i && rdy ops gs.length rem i) with
    | some i => i :: sched ops gs n (rem.filter (· != i))
    | none => match rem with
      | [] => []
      | i :: r => i :: sched ops gs n r
def order3 (ops : Array Oper) (gs : List GOp) : List Nat := sched ops gs gs.length (List.range gs.length)
def mixB (gs : List GOp) : Bool := if gs.any (·.op.isCallM) then true else if gs.any (·.op.isCall) then gs.any (·.op.isStore) else false
/-- whether a region is gone through in that order -/
def useB (ops : Array Oper) (gs : List GOp) (draw : Bool) : Bool := if draw then (if mixB gs then (if ordB (depsOf ops) gs then false else true) else false) else false
def orderOf (ops : Array Oper) (gs : List GOp) (draw : Bool) : List GOp := if useB ops gs draw then (order3 ops gs).map (fun i => gs[i]?.getD .idle) else gs
def compG (T : Tab) (ops : Array Oper) (o : Oper) : Option GOp :=
  match compOp T o.op, o.guard with
  | some s, none => some ⟨o.dst, s, none⟩
  | some s, some (j, w) => match ops[j]? with
    | some p => match p.dst with
      | some d => some ⟨o.dst, s, some (d, w)⟩
      | none => none
    | none => none
  | none, _ => none

def compL (T : Tab) (ops : Array Oper) : List Oper → Option (List GOp)
  | [] => some []
  | o :: r => match compG T ops o, compL T ops r with
    | some g, some l => some (g :: l)
    | _, _ => none

def comp (T : Tab) : Code → Option SC
  | .skip => some .skip
  | .region _ ops draw => (compL T ops ops.toList).map fun gs => SC.ops (draw && someB gs) (orderOf ops gs draw)
  | .seq a b => match comp T a, comp T b with | some x, some y => some (.seq x y) | _, _ => none
  | .cond c a b => match comp T a, comp T b with | some x, some y => some (.cond c x y) | _, _ => none
  | .block i b => (comp T b).map (SC.block i)
  | .loop b => (comp T b).map SC.loop
  | .exit i => some (.exit i)
  | .ret => some .ret
  | _ => none


/-! ### What an operation makes of the slots -/

def cst1 : Value → AV
  | .slice none 0 0 => .nil
  | x => if scal x then .c false (.v x) else .dead
def cst : Value → AV
  | .agg cs => if cs.toList.all (·.oneCell') then .agg (cs.toList.map cst1) else .dead
  | .tuple _ => .dead
  | x => cst1 x

def evalO (st : St) : Operand → AV
  | .tmp t => st.t t
  | .const v => cst v
  | .global _ => .dead
  | .func f => .fn f []

/-- what is read out of memory that stays -/
def cvC (b : Bool) : C → AV
  | .v s => .c false (.v s)
  | .sl xs => .c b (.sl xs)

/-- a text's bytes -/
def sb (s : ByteArray) : List UInt8 := s.data.toList

/-- what may stand in one cell -/
def AV.one : AV → Bool
  | .agg _ | .tup _ | .dead => false
  | _ => true
/-- the cells of what may stand in memory -/
def AV.cells : AV → Option (List AV)
  | .agg xs => some xs
  | .tup _ => none
  | .dead => none
  | x => some [x]
/-- the cells of what may stay -/
def AV.stays1 : AV → Option (Bool × C)
  | .c b x => some (b, x)
  | .nil => some (false, .sl [])
  | _ => none
def AV.staysL : List AV → Option (Bool × List C)
  | [] => some (false, [])
  | x :: xs => match AV.stays1 x, AV.staysL xs with
    | some (b, y), some (b', cs) => some (b || b', y :: cs)
    | _, _ => none
def AV.stays : AV → Option (Bool × List C)
  | .agg xs => AV.staysL xs
  | x => match AV.stays1 x with
    | some (b, y) => some (b, [y])
    | none => none

def binI (op : BinOp) (k : IntKind) (a b : Int) : Option (Prop × Value) :=
  match op with
  | .add => some (True, .int k (k.wrap (a + b)))
  | .sub => some (True, .int k (k.wrap (a - b)))
  | .mul => some (True, .int k (k.wrap (a * b)))
  | .quo => some (b ≠ 0, .int k (k.wrap (a.tdiv b)))
  | .rem => some (b ≠ 0, .int k (a.tmod b))
  | .and => some (True, .int k (k.wrap ((BitVec.ofInt k.bits a &&& BitVec.ofInt k.bits b).toNat)))
  | .or => some (True, .int k (k.wrap ((BitVec.ofInt k.bits a ||| BitVec.ofInt k.bits b).toNat)))
  | .xor => some (True, .int k (k.wrap ((BitVec.ofInt k.bits a ^^^ BitVec.ofInt k.bits b).toNat)))
  | .eql => some (True, .bool (decide (a = b)))
  | .neq => some (True, .bool (!decide (a = b)))
  | .lss => some (True, .bool (decide (a < b)))
  | .leq => some (True, .bool (decide (a ≤ b)))
  | .gtr => some (True, .bool (decide (b < a)))
  | .geq => some (True, .bool (decide (b ≤ a)))
  | _ => none
def binS (op : BinOp) (a b : ByteArray) : Option (Prop × Value) :=
  match op with
  | .add => some ((sb a).length + (sb b).length ≤ 9223372036854775807, .string ⟨(sb a ++ sb b).toArray⟩)
  | .eql => some (True, .bool (decide (sb a = sb b)))
  | .neq => some (True, .bool (!decide (sb a = sb b)))
  | .lss => some (True, .bool (Op.bytesLess (sb a) (sb b)))
  | .leq => some (True, .bool (Op.bytesLess (sb a) (sb b) || decide (sb a = sb b)))
  | .gtr => some (True, .bool (!(Op.bytesLess (sb a) (sb b) || decide (sb a = sb b))))
  | .geq => some (True, .bool (!Op.bytesLess (sb a) (sb b)))
  | _ => none
def isBool : Value → Bool
  | .bool _ => true
  | _ => false
def binV (op : BinOp) : Value → Value → Option (Prop × Value)
  | .int k a, .int j b => match op with
    | .shl => some (0 ≤ b, .int k (k.wrap (a * 2 ^ (min b.toNat k.bits))))
    | .shr => some (0 ≤ b, .int k (a.fdiv (2 ^ (min b.toNat k.bits))))
    | _ => if k = j then binI op k a b else none
  | .string a, .string b => binS op a b
  | .bool a, .bool b => match op with
    | .eql => some (True, .bool (a == b))
    | .neq => some (True, .bool (!(a == b)))
    | _ => none
  | _, _ => none
def unV : UnOp → Value → Option Value
  | .neg, .int k n => some (.int k (k.wrap (0 - n)))
  | .not, .bool b => some (.bool !b)
  | .xor, .int k n => some (.int k (k.wrap ((BitVec.ofInt k.bits (if k.signed then -1 else k.max) ^^^ BitVec.ofInt k.bits n).toNat)))
  | _, _ => none

/-- the numbers, bools and texts of flat cells -/
def flatL : List AV → Option (List Value)
  | [] => some []
  | .c _ (.v s) :: r => (flatL r).map (s :: ·)
  | _ :: _ => none

def optI (st : St) : Option Operand → Option (Option Int)
  | none => some none
  | some x => match evalO st x with
    | .c _ (.v (.int .i64 n)) => some (some n)
    | _ => none

/-- the text's bytes as numbers again -/
def bytesC : List UInt8 → List (List C) := List.map fun b => [.v (.int .u8 (b.toNat : Int))]
/-- what a slice of bytes says -/
def bytesOf : List (List C) → Option (List UInt8)
  | [] => some []
  | [.v (.int .u8 n)] :: r => (bytesOf r).map (UInt8.ofNat n.toNat :: ·)
  | _ :: _ => none

/-- a part is laid into cells -/
def layAt (cs : List AV) (o : Nat) (xs : List AV) : List AV := cs.take o ++ xs ++ cs.drop (o + xs.length)

def bldGo (st : St) : List AV → List (Nat × Nat × Operand) → Option (Prop × List AV)
  | cs, [] => some (True, cs)
  | cs, (o, n, x) :: r => match (evalO st x).cells with
    | some xs => match bldGo st (layAt cs o xs) r with
      | some (p, ys) => some ((xs.length = n ∧ o + n ≤ cs.length) ∧ p, ys)
      | none => none
    | none => none

/-- small numbers that stand in the text: a literal of these is content from the start -/
def cstI : Operand → Bool
  | .const (.int _ n) => if n.toNat < 100000 then true else false
  | _ => false
def cstP : List Operand → Bool
  | [] => false
  | [x] => cstI x
  | x :: y :: r => cstI x && cstP (y :: r)
def rowsOf (st : St) (sz : Nat) : List Operand → Option (Prop × Bool × List (List C))
  | [] => some (True, false, [])
  | x :: r => match (evalO st x).stays, rowsOf st sz r with
    | some (b, cs), some (p, b', rs) => some (cs.length = sz ∧ p, b || b', cs :: rs)
    | _, _ => none

/-- what is read out of a region that turns: where it leads -/
def rgC (i : Id) : C → AV
  | .v _ => .dead
  | .sl xs => .rg i (.sl xs)
/-- what stands from an address on -/
def readAt (st : St) : AV → Option (List AV)
  | .ptr i o => match st.h i with
    | some (.box cs) => some (cs.drop o)
    | _ => none
  | .ept i n o => match st.h i with
    | some (.row b _ _ xs) => some (((xs.getD n []).drop o).map (cvC b))
    | _ => none
  | .ip b xs => some (xs.map (cvC b))
  | .rp i xs => some (xs.map (rgC i))
  | _ => none

/-- what a new cell reads as -/
def zC : Value → C
  | .slice none 0 0 => .sl []
  | x => .v x
def zok : Value → Bool
  | .slice none 0 0 => true
  | x => scal x
/-- what slot d of a state holds behind an operation that only makes something -/
def qf (st : St) (d : Nat) : SOp → Option (Prop × AV × Option Ob)
  | .mv x => some (True, evalO st x, none)
  | .pick c a b => match evalO st c with
    | .c _ (.v (.bool t)) => some (True, if t then evalO st a else evalO st b, none)
    | _ => none
  | .box x => match (evalO st x).cells with
    | some cs => some (True, .ptr (.s d 0) 0, some (.box cs))
    | none => none
  | .zbox z => some (True, .ptr (.s d 0) 0, some (.box (z.map cst1)))
  | .load1 x => match readAt st (evalO st x) with
    | some xs => some (0 < xs.length, xs.getD 0 .dead, none)
    | none => none
  | .loadn n x => match readAt st (evalO st x) with
    | some xs => some (n ≤ xs.length, .agg (xs.take n), none)
    | none => none
  | .fad x off => match evalO st x with
    | .ptr i o => some (True, .ptr i (o + off), none)
    | .ept i n o => some (True, .ept i n (o + off), none)
    | .ip b xs => some (True, .ip b (xs.drop off), none)
    | .rp i xs => some (True, .rp i (xs.drop off), none)
    | _ => none
  | .fld1 x off => match evalO st x with
    | .agg xs => some (off < xs.length, xs.getD off .dead, none)
    | _ => none
  | .fldn x off n => match evalO st x with
    | .agg xs => some (off + n ≤ xs.length, .agg ((xs.drop off).take n), none)
    | _ => none
  | .iad x i sz => match evalO st x, evalO st i with
    | .own id, .c _ (.v (.int _ n)) => match st.h id with
      | some (.row _ _ sz' xs) => some (sz' = sz ∧ 0 ≤ n ∧ n < xs.length, .ept id n.toNat 0, none)
      | _ => none
    | .c b (.sl xs), .c _ (.v (.int _ n)) => some ((xs.getD n.toNat []).length = sz ∧ 0 ≤ n ∧ n < xs.length, .ip b (xs.getD n.toNat []), none)
    | .rg id (.sl xs), .c _ (.v (.int _ n)) => some ((xs.getD n.toNat []).length = sz ∧ 0 ≤ n ∧ n < xs.length, .rp id (xs.getD n.toNat []), none)
    | _, _ => none
  | .iada x i len sz => match evalO st x, evalO st i with
    | .ptr id o, .c _ (.v (.int _ n)) => some (0 ≤ n ∧ n < (len : Int), .ptr id (o + n.toNat * sz), none)
    | .ip b xs, .c _ (.v (.int _ n)) => some (0 ≤ n ∧ n < (len : Int), .ip b (xs.drop (n.toNat * sz)), none)
    | _, _ => none
  | .sidx x i => match evalO st x, evalO st i with
    | .c _ (.v (.string s)), .c _ (.v (.int _ n)) => some (0 ≤ n ∧ n < (sb s).length, .c false (.v (.int .u8 (((sb s).getD n.toNat 0).toNat : Int))), none)
    | _, _ => none
  | .aidx x i len => match evalO st x, evalO st i with
    | .agg xs, .c _ (.v (.int _ n)) => some (xs.length = len ∧ 0 ≤ n ∧ n < (len : Int), xs.getD n.toNat .dead, none)
    | _, _ => none
  | .sls x lo hi => match evalO st x, optI st lo, optI st hi with
    | .c _ (.v (.string s)), some l, some h =>
      some (0 ≤ l.getD 0 ∧ l.getD 0 ≤ h.getD (sb s).length ∧ h.getD (sb s).length ≤ (sb s).length,
        .c false (.v (.string ⟨(((sb s).drop (l.getD 0).toNat).take ((h.getD (sb s).length).toNat - (l.getD 0).toNat)).toArray⟩)), none)
    | _, _, _ => none
  | .slc x lo hi sz => match evalO st x, optI st lo, optI st hi with
    | .c b (.sl xs), some l, some h =>
      some ((∀ r, r ∈ xs → r.length = sz) ∧ 0 ≤ l.getD 0 ∧ l.getD 0 ≤ h.getD xs.length ∧ h.getD xs.length ≤ xs.length,
        .c b (.sl ((xs.drop (l.getD 0).toNat).take ((h.getD xs.length).toNat - (l.getD 0).toNat))), none)
    | .own id, some l, some h => match st.h id with
      | some (.row _ _ sz' xs) => some (sz' = sz ∧ 0 ≤ l.getD 0 ∧ l.getD 0 ≤ h.getD xs.length ∧ h.getD xs.length ≤ xs.length,
        .vw id (l.getD 0).toNat ((h.getD xs.length).toNat - (l.getD 0).toNat), none)
      | _ => none
    | _, _, _ => none
  | .bin isB op x y => match evalO st x, evalO st y with
    | .c _ (.v a), .c _ (.v b) => match binV op a b with
      | some (p, v) => some (p ∧ (isBool a = true → isB = true), .c false (.v v), none)
      | none => none
    | _, _ => none
  | .eqa neg ks x y => match evalO st x, evalO st y with
    | .agg xs, .agg ys => match flatL xs, flatL ys with
      | some us, some vs => some (Kd.fitsL ks us vs = true, .c false (.v (.bool (if neg then !valsEq us vs else valsEq us vs))), none)
      | _, _ => none
    | _, _ => none
  | .un op x => match evalO st x with
    | .c _ (.v a) => match unV op a with
      | some v => some (True, .c false (.v v), none)
      | none => none
    | _ => none
  | .cvi k x => match evalO st x with
    | .c _ (.v (.int _ n)) => some (True, .c false (.v (.int k (k.wrap n))), none)
    | _ => none
  | .cvss x => match evalO st x with
    | .c _ (.v (.string s)) => some (True, .c false (.v (.string s)), none)
    | _ => none
  | .cvbs x => match evalO st x with
    | .c _ (.sl xs) => match bytesOf xs with
      | some l => some (True, .c false (.v (.string ⟨l.toArray⟩)), none)
      | none => none
    | .own i => match st.h i with
      | some (.row _ _ _ xs) => match bytesOf xs with
        | some l => some (True, .c false (.v (.string ⟨l.toArray⟩)), none)
        | none => none
      | _ => none
    | .nil => some (True, .c false (.v (.string ⟨#[]⟩)), none)
    | _ => none
  | .cvsb e x => match evalO st x with
    | .c _ (.v (.string s)) => some ((sb s).length ≤ 140737488355328, .own (.s d 0), some (.row false e 1 (bytesC (sb s))))
    | _ => none
  | .mks e sz bytes zero n => match evalO st n with
    | .c _ (.v (.int _ n)) => some (0 ≤ n ∧ n * bytes ≤ 140737488355328 ∧ n ≤ 9223372036854775807 ∧ zero.length = sz ∧ 0 < sz ∧ zero.all zok = true, .own (.s d 0),
        some (.row false e sz (List.replicate n.toNat (zero.map zC))))
    | _ => none
  | .bsl e sz _ parts => match rowsOf st sz parts with
    | some (p, b, rs) => match cstP parts with
      | true => some (p, .c b (.sl rs), none)
      | false => some (p, .own (.s d 0), some (.row b e sz rs))
    | none => none
  | .bld zero parts => match bldGo st (zero.map cst1) parts with
    | some (p, cs) => some (p, .agg cs, none)
    | none => none
  | .ext x i => match evalO st x with
    | .tup xs => some (i < xs.length, xs.getD i .dead, none)
    | _ => none
  | .lens x => match evalO st x with
    | .c _ (.v (.string s)) => some (True, .c false (.v (.int .i64 ((sb s).length : Int))), none)
    | _ => none
  | .len x => match evalO st x with
    | .c _ (.sl xs) => some (True, .c false (.v (.int .i64 (xs.length : Int))), none)
    | .vw i lo n => match st.h i with
      | some (.row _ _ _ xs) => some (True, .c false (.v (.int .i64 (((xs.drop lo).take n).length : Int))), none)
      | _ => none
    | .own i => match st.h i with
      | some (.row _ _ _ xs) => some (True, .c false (.v (.int .i64 (xs.length : Int))), none)
      | _ => none
    | .nil => some (True, .c false (.v (.int .i64 0)), none)
    | .rg _ (.sl xs) => some (True, .c false (.v (.int .i64 (xs.length : Int))), none)
    | _ => none
  | .mx x y => match evalO st x, evalO st y with
    | .c _ (.v (.int k a)), .c _ (.v (.int _ b)) => some (True, .c false (.v (.int k (if a < b then b else a))), none)
    | _, _ => none
  | .mn x y => match evalO st x, evalO st y with
    | .c _ (.v (.int k a)), .c _ (.v (.int _ b)) => some (True, .c false (.v (.int k (if b < a then b else a))), none)
    | _, _ => none
  | .mkf f caps => some (True, .fn f (caps.map (evalO st)), none)
  | .nilc x => match evalO st x with
    | .ptr i o => some (True, .ptr i o, none)
    | .ept i n o => some (True, .ept i n o, none)
    | .ip b xs => some (True, .ip b xs, none)
    | .fn f xs => some (True, .fn f xs, none)
    | .rp i xs => some (True, .rp i xs, none)
    | _ => none
  | _ => none

end Go.Proofs.YtoemclhjcbcjaaaGreat.AB
