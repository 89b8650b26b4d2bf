/- A pure, executable reading of the program's own code over typed values (no memory), with ownership checked as it runs: the definitions. No condition. -/
import Derived.Calls
import Derived.Orders
set_option linter.unusedVariables false
namespace Go.Proofs.Yteeklekfafedcaa.V
open Go

/-! ### shapes and flags -/
inductive Sh where
  | unit
  | int (k : IntKind)
  | bool
  | str
  | sl (e : TypeId) (s : Sh)
  | pr (a b : Sh)
  deriving DecidableEq

@[reducible] def Sh.ty : Sh → Type
  | .unit => Unit
  | .int _ => Int
  | .bool => Bool
  | .str => ByteArray
  | .sl _ s => List s.ty
  | .pr a b => a.ty × b.ty

def Sh.size : Sh → Nat
  | .unit => 0
  | .int _ => 1
  | .bool => 1
  | .str => 1
  | .sl _ _ => 1
  | .pr a b => a.size + b.size

def Sh.zero : (s : Sh) → s.ty
  | .unit => ()
  | .int _ => (0 : Int)
  | .bool => false
  | .str => ByteArray.empty
  | .sl _ _ => []
  | .pr a b => (a.zero, b.zero)

/-- no slices inside -/
def Sh.plain : Sh → Bool
  | .sl _ _ => false
  | .pr a b => a.plain && b.plain
  | _ => true

/-- fz: memory that nobody writes any more; own: a row of the call's own, its elements' rows too; ownf: a row of the call's own over frozen elements; junk: moved out; io: own, its block and its room known; kz: frozen, its header known -/
inductive Fl where
  | fz | own | ownf | junk
  | pr (a b : Fl)
  | io (n c : Nat)
  | kz (A : Option Addr) (c : Nat)
  deriving DecidableEq

def Fl.l : Fl → Fl
  | .pr a _ => a
  | f => f
def Fl.r : Fl → Fl
  | .pr _ b => b
  | f => f
def Fl.el : Fl → Fl
  | .ownf => .fz
  | .io _ _ => .own
  | .kz _ _ => .fz
  | f => f
def Fl.wr : Fl → Bool
  | .own => true
  | .ownf => true
  | .io _ _ => true
  | _ => false
def Fl.unio : Fl → Fl
  | .io _ _ => .own
  | f => f
/-- every slice is frozen -/
def Fl.allfz : Sh → Fl → Bool
  | .sl _ _, f => match f with | .fz => true | .kz _ _ => true | _ => false
  | .pr a b, f => Fl.allfz a f.l && Fl.allfz b f.r
  | _, _ => true
/-- what is marked f may be marked g -/
def Fl.le : Sh → Fl → Fl → Bool
  | .sl _ s, f, g => match f, g with
    | .fz, .fz => true
    | .own, .own => true
    | .own, .ownf => true
    | .own, .fz => true
    | .ownf, .ownf => true
    | .ownf, .fz => true
    | .ownf, .own => s.plain
    | _, .junk => true
    | _, _ => false
  | .pr a b, f, g => Fl.le a f.l g.l && Fl.le b f.r g.r
  | _, _, _ => true

/-- what is marked f is no less what is marked g -/
def Fl.sub : Sh → Fl → Fl → Bool
  | .sl _ s, f, g => f == g || (s.plain && (f == .own || f == .ownf) && (g == .own || g == .ownf))
  | .pr a b, f, g => Fl.sub a f.l g.l && Fl.sub b f.r g.r
  | _, _, _ => true

/-! ### paths -/
inductive PStep where
  | l | r | el (i : Nat)
  deriving DecidableEq
abbrev Path := List PStep

def get : (s : Sh) → Fl → s.ty → Path → Option ((s' : Sh) × Fl × s'.ty)
  | s, f, x, [] => some ⟨s, f, x⟩
  | .pr a _b, f, x, .l :: p => get a f.l x.1 p
  | .pr _a b, f, x, .r :: p => get b f.r x.2 p
  | .sl _ s, f, xs, .el i :: p => match f with
    | .own => get s f.el (xs.getD i s.zero) p
    | .ownf => get s f.el (xs.getD i s.zero) p
    | .io _ _ => get s .own (xs.getD i s.zero) p
    | _ => none
  | _, _, _, _ => none

def upd (s' : Sh) (f' : Fl) (x' : s'.ty) : (s : Sh) → Fl → s.ty → Path → Option (Fl × s.ty)
  | s, _, _, [] => if h : s' = s then some (f', h ▸ x') else none
  | .pr a b, f, x, .l :: p => match upd s' f' x' a f.l x.1 p with
    | some (g, y) => some (.pr g f.r, (y, x.2))
    | none => none
  | .pr a b, f, x, .r :: p => match upd s' f' x' b f.r x.2 p with
    | some (g, y) => some (.pr f.l g, (x.1, y))
    | none => none
  | .sl _ s, f, xs, .el i :: p => match f with
    | .own => match upd s' f' x' s .own (xs.getD i s.zero) p with
      | some (g, y) => if s.plain || g == .own then some (.own, xs.set i y) else none
      | none => none
    | .ownf => match upd s' f' x' s .fz (xs.getD i s.zero) p with
      | some (g, y) => if s.plain || g == .fz then some (.ownf, xs.set i y) else none
      | none => none
    | .io n c => match upd s' f' x' s .own (xs.getD i s.zero) p with
      | some (g, y) => if s.plain || g == .own then some (.io n c, xs.set i y) else none
      | none => none
    | _ => none
  | _, _, _, _ => none

/-! ### what a temporary holds -/
inductive RK where
  | val (agg : Bool)
  | box (t : TypeId)
  | ibox (t : TypeId) (b : Nat)
  | tup (aggs : List Bool)
  deriving DecidableEq

inductive Cap where
  | adr (g : Nat) (p : Path)
  | fadr (s : Sh) (x : s.ty)

inductive PV where
  | dead
  | v (agg : Bool) (s : Sh) (x : s.ty)
  | emp
  | h (agg : Bool) (g : Nat) (p : Path)
  | adr (g : Nat) (p : Path)
  | fadr (s : Sh) (x : s.ty)
  | root (k : RK) (s : Sh) (f : Fl) (x : s.ty)
  | fn (f : FuncId) (caps : List Cap)

instance : Inhabited PV := ⟨.dead⟩
abbrev St := List PV
def St.at (st : St) (t : Nat) : PV := st.getD t .dead

def PV.isRoot : PV → Bool
  | .root .. => true
  | _ => false

/-- the content of a place -/
def look (st : St) (g : Nat) (p : Path) : Option ((s : Sh) × Fl × s.ty) :=
  match st.at g with
  | .root _ s f x => get s f x p
  | _ => none

/-- p is ahead of q -/
def Path.pre : Path → Path → Bool
  | [], _ => true
  | a :: p, b :: q => a == b && Path.pre p q
  | _ :: _, [] => false

/-- q lies strictly below p -/
def below (p q : Path) : Bool := Path.pre p q && !(Path.pre q p)
def capBelow (g : Nat) (p : Path) : Cap → Bool
  | .adr g' q => g' == g && below p q
  | _ => false
/-- place p of root g has been written: what hung on what stood there is dead -/
def hit (g : Nat) (p : Path) : PV → PV
  | .h agg g' q => if g' == g && (agg || Path.pre p q) then .dead else .h agg g' q
  | .adr g' q => if g' == g && below p q then .dead else .adr g' q
  | .fn f caps => if caps.any (capBelow g p) then .dead else .fn f caps
  | x => x
/-- what lies below place p of root g may have been written, but not p's own cell -/
def hitS (g : Nat) (p : Path) : PV → PV
  | .h agg g' q => if g' == g && (agg || below p q) then .dead else .h agg g' q
  | .adr g' q => if g' == g && below p q then .dead else .adr g' q
  | .fn f caps => if caps.any (capBelow g p) then .dead else .fn f caps
  | x => x
def capUses (g : Nat) : Cap → Bool
  | .adr g' _ => g' == g
  | _ => false
def usesG (g : Nat) : PV → Bool
  | .h _ g' _ => g' == g
  | .adr g' _ => g' == g
  | .fn _ caps => caps.any (capUses g)
  | _ => false
/-- root g is gone -/
def drop (g : Nat) (x : PV) : PV := if usesG g x then .dead else x

def setRoot (st : St) (g : Nat) (s : Sh) (f : Fl) (x : s.ty) : Option St :=
  match st.at g with
  | .root k _ _ _ => some (st.set g (.root k s f x))
  | _ => none

/-- write a place: the new content, and what dies of it -/
def put (st : St) (g : Nat) (p : Path) (s' : Sh) (f' : Fl) (x' : s'.ty) (kill : Nat → Path → PV → PV) : Option St :=
  match st.at g with
  | .root k s f x => match upd s' f' x' s f x p with
    | some (f1, x1) => some ((st.map (kill g p)).set g (.root k s f1 x1))
    | none => none
  | _ => none

/-- move a place's content out -/
def take (st : St) (g : Nat) (p : Path) : Option (((s : Sh) × Fl × s.ty) × St) :=
  match st.at g with
  | .root (.val agg) s f x => match p with
    | [] => some (⟨s, f, x⟩, (st.map (drop g)).set g .dead)
    | _ => match get s f x p with
      | some ⟨s1, f1, x1⟩ => match put st g p s1 .junk x1 hit with
        | some st' => some (⟨s1, f1, x1⟩, st')
        | none => none
      | none => none
  | .root _ s f x => match get s f x p with
    | some ⟨s1, f1, x1⟩ => match put st g p s1 .junk x1 hit with
      | some st' => some (⟨s1, f1, x1⟩, st')
      | none => none
    | none => none
  | _ => none

/-! ### tables -/
structure TI where
  sh : Sh
  agg : Bool
  bytes : Nat
  /-- the number of fields of a struct -/
  nf : Nat := 0
  /-- the fields: whether a struct, shape -/
  fs : List (Bool × Sh) := []
  /-- a struct of scalars that is compared -/
  cmp : Bool := false

def tget {α : Type} : List (Nat × α) → Nat → Option α
  | [], _ => none
  | (n, i) :: r, t => if n == t then some i else tget r t

structure FI where
  fn : Func
  /-- the temporaries that live at the head of the loop of a block -/
  ann : List (Nat × List Nat) := []
  /-- the results: a struct or one cell, shape, flags -/
  res : List (Bool × Sh × Fl) := []
  /-- parameters that are written: number, shape, flags at the end -/
  io : List (Nat × Sh × Fl) := []

structure Env where
  T : List (Nat × TI)
  Fs : List (Nat × FI)

def nest : List Sh → Sh
  | [] => .unit
  | [s] => s
  | s :: r => .pr s (nest r)
def nestF : List Fl → Fl
  | [] => .fz
  | [f] => f
  | f :: r => .pr f (nestF r)

def FI.shapes (i : FI) : List Sh := i.res.map (·.2.1) ++ i.io.map (·.2.1)
def Env.fi (E : Env) (f : Nat) : Option FI := tget E.Fs f
def Env.rs (E : Env) (f : Nat) : Sh := match E.fi f with | some i => nest i.shapes | none => .unit

/-- the path to field i of n -/
def fpath : Nat → Nat → Path
  | 0, n => if n ≤ 1 then [] else [.l]
  | i + 1, n => .r :: fpath i (n - 1)

/-! ### operands -/
def cvalue : Value → PV
  | .int k n => .v false (.int k) n
  | .bool b => .v false .bool b
  | .string s => .v false .str s
  | .slice none 0 0 => .emp
  | _ => .dead

def ev (st : St) : Operand → PV
  | .tmp t => st.at t
  | .const c => cvalue c
  | .func f => .fn f []
  | .global _ => .dead

/-- an operand as a copy: roots are named, not copied -/
def ref (st : St) (x : Operand) : PV :=
  match x with
  | .tmp t => match st.at t with
    | .root (.val agg) _ _ _ => .h agg t []
    | .root (.box _) _ _ _ => .adr t []
    | .root (.ibox _ _) _ _ _ => .adr t []
    | .root (.tup _) _ _ _ => .dead
    | pv => pv
  | x => ev st x

/-- what a temporary holds after a load of place (s, f, x) = place p of g -/
def loaded (agg : Bool) (g : Nat) (p : Path) (s : Sh) (f : Fl) (x : s.ty) : PV :=
  if s.plain || Fl.allfz s f then .v agg s x else .h agg g p

def castTo (s' s : Sh) (x : s'.ty) : Option s.ty := if h : s' = s then some (h ▸ x) else none
theorem castTo_self (s : Sh) (x : s.ty) : castTo s s x = some x := by simp [castTo]

def Fl.good : Fl → Bool
  | .fz => true
  | .own => true
  | .ownf => true
  | .io _ _ => true
  | .kz _ _ => true
  | _ => false

def Sh.isSl : Sh → Bool
  | .sl _ _ => true
  | _ => false

/-- a slice's elements, read (the roots as 'rt' has them) -/
def rowOf (rt : St) (e : TypeId) (s : Sh) : PV → Option (List s.ty)
  | .emp => some []
  | .v false s' x => castTo s' (.sl e s) x
  | .h false g p => match look rt g p with
    | some ⟨s', f, x⟩ => if f.good = true then castTo s' (.sl e s) x else none
    | none => none
  | _ => none

def lenOf (rt : St) : PV → Option Nat
  | .emp => some 0
  | .v false (.sl _ _) x => some x.length
  | .h false g p => match look rt g p with
    | some ⟨.sl _ _, f, x⟩ => if f.good = true then some x.length else none
    | _ => none
  | _ => none

/-- a value of which a new owner is wanted: frozen things as they are, one's own is moved -/
def grab (st : St) (agg : Bool) (s : Sh) : PV → Option (Fl × s.ty × St)
  | .v agg' s' x => if agg' = agg then match castTo s' s x with
    | some y => some (.fz, y, st)
    | none => none else none
  | .emp => if agg = false ∧ s.isSl = true then some (.own, s.zero, st) else none
  | .h agg' g p => if agg' = agg then match take st g p with
    | some (⟨s', f, x⟩, st') => match castTo s' s x with
      | some y => some (f, y, st')
      | none => none
    | none => none else none
  | _ => none

def PV.isH : PV → Bool
  | .h .. => true
  | _ => false

def PV.isEmp : PV → Bool
  | .emp => true
  | _ => false

/-- equality of what has no slices -/
def eqv : (s : Sh) → s.ty → s.ty → Bool
  | .unit, _, _ => true
  | .int _, x, y => decide (x = y)
  | .bool, x, y => x == y
  | .str, x, y => x == y
  | .sl _ _, _, _ => false
  | .pr a b, x, y => eqv a x.1 y.1 && eqv b x.2 y.2

/-- what an operation does: the condition under which it doesn't panic, whether it writes its own slot alone, the state behind what it moved, what its slot holds -/
structure Out where
  c : Bool
  cl : Bool
  st : St
  pv : PV

def intop (op : BinOp) (k : IntKind) (a b : Int) : Option (Bool × PV) :=
  match op with
  | .add => some (true, .v false (.int k) (k.wrap (a + b)))
  | .sub => some (true, .v false (.int k) (k.wrap (a - b)))
  | .mul => some (true, .v false (.int k) (k.wrap (a * b)))
  | .quo => some (!(decide (b = 0)), .v false (.int k) (k.wrap (a.tdiv b)))
  | .rem => some (!(decide (b = 0)), .v false (.int k) (a.tmod b))
  | .and => some (true, .v false (.int k) (k.wrap (BitVec.ofInt k.bits a &&& BitVec.ofInt k.bits b).toNat))
  | .or => some (true, .v false (.int k) (k.wrap (BitVec.ofInt k.bits a ||| BitVec.ofInt k.bits b).toNat))
  | .xor => some (true, .v false (.int k) (k.wrap (BitVec.ofInt k.bits a ^^^ BitVec.ofInt k.bits b).toNat))
  | .andNot => some (true, .v false (.int k) (k.wrap (BitVec.ofInt k.bits a &&& ~~~ (BitVec.ofInt k.bits b)).toNat))
  | .eql => some (true, .v false .bool (a == b))
  | .neq => some (true, .v false .bool (!(a == b)))
  | .lss => some (true, .v false .bool (decide (a < b)))
  | .leq => some (true, .v false .bool (decide (a ≤ b)))
  | .gtr => some (true, .v false .bool (decide (a > b)))
  | .geq => some (true, .v false .bool (decide (a ≥ b)))
  | _ => none
def binop (op : BinOp) : PV → PV → Option (Bool × PV)
  | .v false (.int k) a, .v false (.int k') b =>
    match op with
    | .shl => some (decide (0 ≤ b), .v false (.int k) (k.wrap (a * 2 ^ (min b.toNat k.bits))))
    | .shr => some (decide (0 ≤ b), .v false (.int k) (a.fdiv (2 ^ (min b.toNat k.bits))))
    | op => if k = k' then intop op k a b else none
  | .v false .str a, .v false .str b =>
    match op with
    | .eql => some (true, .v false .bool (a.toList == b.toList))
    | .neq => some (true, .v false .bool (!(a.toList == b.toList)))
    | .add => some (decide (a.size + b.size ≤ 9223372036854775807), .v false .str (a ++ b))
    | _ => none
  | _, _ => none

/-- bools, and structs of whole numbers, bools, strings compared -/
def eqop (op : BinOp) (agg : Bool) (s : Sh) : PV → PV → Option PV
  | .v a1 s1 a, .v a2 s2 b => if a1 = agg ∧ a2 = agg then match castTo s1 s a, castTo s2 s b with
    | some a, some b => match op with
        | .eql => some (.v false .bool (eqv s a b))
        | .neq => some (.v false .bool (!(eqv s a b)))
        | _ => none
    | _, _ => none else none
  | _, _ => none

def unop (op : UnOp) (x : PV) : Option PV :=
  match op, x with
  | .not, .v false .bool b => some (.v false .bool (!b))
  | .neg, .v false (.int k) a => some (.v false (.int k) (k.wrap (0 - a)))
  | _, _ => none

/-- the fields of a composite, laid one after the other: the shapes and whether they are structs -/
def fillSt (n : Nat) (fs : List (Bool × Sh)) : List (Nat × Operand) → St → (s : Sh) → Fl → s.ty → Option (Fl × s.ty × St)
  | [], st, _, f, x => some (f, x, st)
  | (i, o) :: r, st, s, f, x => match fs[i]? with
    | some (agg, s1) => if i < n then match grab st agg s1 (ref st o) with
      | some (f1, x1, st1) => match upd s1 f1 x1 s f x (fpath i n) with
        | some (f2, x2) => fillSt n fs r st1 s f2 x2
        | none => none
      | none => none else none
    | none => none

/-- the elements of a literal; 'g': their flags -/
def fillRow (agg : Bool) (s : Sh) (g : Fl) : List (Nat × Operand) → St → List s.ty → Option (List s.ty × St)
  | [], st, xs => some (xs, st)
  | (i, o) :: r, st, xs => match grab st agg s (ref st o) with
    | some (f1, x1, st1) => if i < xs.length ∧ (Fl.sub s f1 g || (ref st o).isEmp) = true then fillRow agg s g r st1 (xs.set i x1) else none
    | none => none

def limOk (n bytes : Nat) : Bool := decide (n * bytes ≤ 140737488355328 ∧ n ≤ 140737488355328)

def noH (st : St) (xs : List (Nat × Operand)) : Bool := xs.all fun p => !(ref st p.2).isH

/-- the shapes of a struct's fields -/
def fieldsOf : Nat → Sh → List Sh
  | 0, _ => []
  | 1, s => [s]
  | n + 1, .pr a b => a :: fieldsOf n b
  | _ + 1, _ => []

def cOf (st : St) (x : Operand) : Option Cap := match ref st x with
  | .adr g p => some (Cap.adr g p)
  | .fadr s y => some (Cap.fadr s y)
  | _ => none
def capsOf (st : St) : List Operand → Option (List Cap)
  | [] => some []
  | x :: r => match cOf st x, capsOf st r with
    | some c, some cs => some (c :: cs)
    | _, _ => none

def bound (st : St) (d : Int) : Option Operand → Option Int
  | none => some d
  | some y => match ref st y with
    | .v false (.int _) n => some n
    | _ => none

/-- the head of an append: its elements so far, moved -/
def headRow (st : St) (e : TypeId) (s : Sh) (g : Fl) : PV → Option (List s.ty × St)
  | .emp => some ([], st)
  | .h false r p => match take st r p with
    | some (⟨s', f, x⟩, st') => match castTo s' (.sl e s) x with
      | some xs => if f = g ∨ (s.plain ∧ (f = .own ∨ f = .ownf)) then some (xs, st') else none
      | none => none
    | none => none
  | _ => none

/-- a tuple moves on -/
def moveTup (st : St) : Operand → Option Out
  | .tmp t => match st.at t with
    | .root (.tup ag) s f x => some (if s.plain then ⟨true, true, st, .root (.tup ag) s .fz x⟩ else ⟨true, false, (st.map (drop t)).set t .dead, .root (.tup ag) s f x⟩)
    | _ => none
  | _ => none

/-- the nil pointer -/
def nilP : Operand → Bool
  | .const (.pointer none) => true
  | _ => false

/-- one operation that is no call of a function of the program; rt: the roots as they are read -/
def pop (T : List (Nat × TI)) (rt st : St) (o : Oper) : Option Out :=
  match o.op with
  | .move x => match moveTup st x with
    | some out => some out
    | none => match ref st x with
      | .dead => none
      | pv => some ⟨true, true, st, pv⟩
  | .assign x => match ref st x with
    | .dead => if nilP x then some ⟨true, true, st, .dead⟩ else none
    | pv => some ⟨true, true, st, pv⟩
  | .pick c a b => match ev st c with
    | .v false .bool t => match t with
      | true => match ref st a with
        | .dead => none
        | pv => some ⟨true, true, st, pv⟩
      | false => match ref st b with
        | .dead => none
        | pv => some ⟨true, true, st, pv⟩
    | _ => none
  | .alloc t => match tget T t with
    | some i => some ⟨true, true, st, .root (.box t) i.sh .own i.sh.zero⟩
    | none => none
  | .box t x => match tget T t with
    | some i => match grab st i.agg i.sh (ref st x) with
      | some (f, y, st') => some ⟨true, !(ref st x).isH, st', .root (.box t) i.sh f y⟩
      | none => none
    | none => none
  | .build t parts => match tget T t with
    | some i => if i.agg = true then match fillSt i.nf i.fs parts.toList st i.sh .own i.sh.zero with
      | some (f, x, st') => some ⟨true, noH st parts.toList, st', if i.sh.plain || Fl.allfz i.sh f then .v true i.sh x else .root (.val true) i.sh f x⟩
      | none => none else none
    | none => none
  | .buildSlice t n parts => match n with
    | 0 => match tget T t with
      | some ⟨.sl e s, false, _, _, _, _⟩ => if parts.isEmpty then some ⟨true, true, st, .emp⟩ else none
      | _ => none
    | _ => match tget T t with
      | some ⟨.sl e s, false, _, _, _, _⟩ => match tget T e with
        | some i => if i.sh = s ∧ n * s.size ≤ 16777216 then match fillRow i.agg s (if noH st parts.toList then .fz else .own) parts.toList st (List.replicate n s.zero) with
            | some (xs, st') => some ⟨true, noH st parts.toList, st', .root (.val false) (.sl e s) (if s.plain || !(noH st parts.toList) then .own else .ownf) xs⟩
            | none => none else none
        | none => none
      | _ => none
  | .load t a => match tget T t with
    | some i => match ref st a with
      | .adr g p => match look rt g p with
        | some ⟨s, f, x⟩ => if s = i.sh then some ⟨true, true, st, loaded i.agg g p s f x⟩ else none
        | none => none
      | .fadr s x => if s = i.sh then some ⟨true, true, st, .v i.agg s x⟩ else none
      | _ => none
    | none => none
  | .store t a y => match tget T t with
    | some i => match grab st i.agg i.sh (ref st y) with
      | some (f, x, st') => match ref st' a with
        | .adr g p => match put st' g p i.sh f x hit with
          | some st2 => some ⟨true, false, st2, .dead⟩
          | none => none
        | _ => none
      | none => none
    | none => none
  | .nilCheck x => match ref st x with
    | .adr g p => some ⟨true, true, st, .adr g p⟩
    | .fadr s y => some ⟨true, true, st, .fadr s y⟩
    | _ => none
  | .binOp op t x y _ => match binop op (ref st x) (ref st y) with
    | some (c, pv) => some ⟨c, true, st, pv⟩
    | none => match tget T t with
      | some i => if i.agg && i.cmp || !i.agg && i.sh == .bool then match eqop op i.agg i.sh (ref st x) (ref st y) with
        | some pv => some ⟨true, true, st, pv⟩
        | none => none else none
      | none => none
  | .unOp op _ x => match unop op (ref st x) with
    | some pv => some ⟨true, true, st, pv⟩
    | none => none
  | .convert src dst x => match tget T dst with
    | some ⟨.int k, false, _, _, _, _⟩ => match ref st x with
      | .v false (.int _) a => match tget T src with
        | some _ => some ⟨true, true, st, .v false (.int k) (k.wrap a)⟩
        | none => none
      | _ => none
    | _ => none
  | .makeFunc (.func f) first caps => if first.isEmpty then match capsOf st caps.toList with
      | some cs => some ⟨true, true, st, .fn f cs⟩
      | none => none else none
  | .makeSlice t l c => match tget T t with
    | some ⟨.sl e s, false, _, _, _, _⟩ => match tget T e with
      | some i => match ref st l, ref st c with
        | .v false (.int .i64) n, .v false (.int .i64) m => if i.sh = s then some ⟨decide (0 ≤ n ∧ n = m) && limOk n.toNat i.bytes, true, st, .root (.val false) (.sl e s) .own (List.replicate n.toNat s.zero)⟩ else none
        | _, _ => none
      | none => none
    | _ => none
  | .slice t x lo hi none => match tget T t with
    | some ⟨.sl e s, false, _, _, _, _⟩ => match ref st x with
      | .v false s' xs => match castTo s' (.sl e s) xs with
        | some xs => match bound st 0 lo, bound st (xs : List s.ty).length hi with
          | some a, some b => some ⟨decide (0 ≤ a ∧ a ≤ b ∧ b ≤ (xs : List s.ty).length), true, st, .v false (.sl e s) (((xs : List s.ty).take b.toNat).drop a.toNat)⟩
          | _, _ => none
        | none => none
      | .emp => match bound st 0 lo, bound st 0 hi with
        | some a, some b => some ⟨decide (0 ≤ a ∧ a ≤ b ∧ b ≤ 0), true, st, .emp⟩
        | _, _ => none
      | .h false g p => match lo with
        | some _ => none
        | none => match take st g p with
          | some (⟨s', f, xs⟩, st') => match castTo s' (.sl e s) xs with
            | some xs => match bound st (xs : List s.ty).length hi with
              | some b => if f.wr = true then some ⟨decide (0 ≤ b ∧ b ≤ (xs : List s.ty).length), false, st', .root (.val false) (.sl e s) f.unio ((xs : List s.ty).take b.toNat)⟩ else none
              | none => none
            | none => none
          | none => none
      | _ => none
    | some ⟨.str, false, _, _, _, _⟩ => match ref st x with
      | .v false .str xs => match bound st 0 lo, bound st xs.size hi with
        | some a, some b => some ⟨decide (0 ≤ a ∧ a ≤ b ∧ b ≤ xs.size), true, st, .v false .str (xs.extract a.toNat b.toNat)⟩
        | _, _ => none
      | _ => none
    | _ => none
  | .fieldAddr t x n => match tget T t with
    | some i => match ref st x with
      | .adr g p => match look rt g p with
        | some ⟨s, _, _⟩ => if s = i.sh ∧ n < i.nf ∧ i.agg = true then some ⟨true, true, st, .adr g (p ++ fpath n i.nf)⟩ else none
        | none => none
      | .fadr s y => match castTo s i.sh y with
        | some y => match get i.sh .fz y (fpath n i.nf) with
          | some ⟨s', _, y'⟩ => if n < i.nf ∧ i.agg = true then some ⟨true, true, st, .fadr s' y'⟩ else none
          | none => none
        | none => none
      | _ => none
    | none => none
  | .field t x n => match tget T t with
    | some i => match ref st x, i.fs[n]? with
      | .h true g p, some (agg, s1) => match look rt g p with
        | some ⟨s, f, y⟩ => if s = i.sh then match get s f y (fpath n i.nf) with
          | some ⟨s', f', y'⟩ => if s' = s1 ∧ n < i.nf ∧ i.agg = true ∧ (agg || s'.plain || s'.isSl) = true then some ⟨true, true, st, loaded agg g (p ++ fpath n i.nf) s' f' y'⟩ else none
          | none => none else none
        | none => none
      | .v true s y, some (agg, s1) => match castTo s i.sh y with
        | some y => match get i.sh .fz y (fpath n i.nf) with
          | some ⟨s', _, y'⟩ => if s' = s1 ∧ n < i.nf ∧ i.agg = true then some ⟨true, true, st, .v agg s' y'⟩ else none
          | none => none
        | none => none
      | _, _ => none
    | none => none
  | .indexAddr t x y => match tget T t with
    | some ⟨.sl e s, false, _, _, _, _⟩ => match ref st y with
      | .v false (.int _) n => match ref st x with
        | .v false s' xs => match castTo s' (.sl e s) xs with
          | some xs => some ⟨decide (0 ≤ n ∧ n < (xs : List s.ty).length), true, st, .fadr s ((xs : List s.ty).getD n.toNat s.zero)⟩
          | none => none
        | .h false g p => match look rt g p with
          | some ⟨s', f, xs⟩ => if f.wr = true then match castTo s' (.sl e s) xs with
            | some xs => some ⟨decide (0 ≤ n ∧ n < (xs : List s.ty).length), true, st, .adr g (p ++ [.el n.toNat])⟩
            | none => none else none
          | none => none
        | .emp => some ⟨false, true, st, .fadr s s.zero⟩
        | _ => none
      | _ => none
    | _ => none
  | .index t x y => match tget T t with
    | some ⟨.str, false, _, _, _, _⟩ => match ref st x, ref st y with
      | .v false .str xs, .v false (.int _) n => some ⟨decide (0 ≤ n ∧ n < xs.size), true, st, .v false (.int .u8) (if h : n.toNat < xs.size then ((xs[n.toNat]'h).toNat : Int) else 0)⟩
      | _, _ => none
    | _ => none
  | .extract (.tmp t) n => match rt.at t with
    | .root (.tup aggs) s f x => match aggs[n]?, get s f x (fpath n aggs.length) with
      | some g, some ⟨s', f', x'⟩ => some ⟨true, true, st, loaded g t (fpath n aggs.length) s' f' x'⟩
      | _, _ => none
    | _ => none
  | .call ⟨.builtin .len, args, ts⟩ => match args.toList, ts.toList with
    | [x], [t] => match tget T t with
      | some ⟨.sl _ _, false, _, _, _, _⟩ => match lenOf rt (ref st x) with
        | some n => some ⟨true, true, st, .v false (.int .i64) (n : Int)⟩
        | none => none
      | some ⟨.str, false, _, _, _, _⟩ => match ref st x with
        | .v false .str s => some ⟨true, true, st, .v false (.int .i64) (s.size : Int)⟩
        | _ => none
      | _ => none
    | _, _ => none
  | .call ⟨.builtin .min, args, _⟩ => match args.toList with
    | [x, y] => match ref st x, ref st y with
      | .v false (.int .i64) a, .v false (.int .i64) b => some ⟨true, true, st, .v false (.int .i64) (if b < a then b else a)⟩
      | _, _ => none
    | _ => none
  | .call ⟨.builtin .max, args, _⟩ => match args.toList with
    | [x, y] => match ref st x, ref st y with
      | .v false (.int .i64) a, .v false (.int .i64) b => some ⟨true, true, st, .v false (.int .i64) (if a < b then b else a)⟩
      | _, _ => none
    | _ => none
  | .call ⟨.builtin .append, args, ts⟩ => match args.toList, ts.toList with
    | [x, y], [t, t'] => match tget T t with
      | some ⟨.sl e s, false, _, _, _, _⟩ => match tget T e with
        | some i => if i.sh = s ∧ t = t' then
            if s.plain || !(ref st y).isH then
              match rowOf rt e s (ref st y) with
              | some ys => match headRow st e s (if s.plain then .own else .ownf) (ref st x) with
                | some (xs, st') => some ⟨limOk (xs.length + ys.length) i.bytes, !(ref st x).isH, st', .root (.val false) (.sl e s) (if s.plain then .own else .ownf) (xs ++ ys)⟩
                | none => none
              | none => none
            else
              match headRow st e s .own (ref st y) with
              | some (ys, st1) => match headRow st1 e s .own (ref st1 x) with
                | some (xs, st2) => some ⟨limOk (xs.length + ys.length) i.bytes, false, st2, .root (.val false) (.sl e s) .own (xs ++ ys)⟩
                | none => none
              | none => none
          else none
        | none => none
      | _ => none
    | _, _ => none
  | _ => none
end Go.Proofs.Yteeklekfafedcaa.V
