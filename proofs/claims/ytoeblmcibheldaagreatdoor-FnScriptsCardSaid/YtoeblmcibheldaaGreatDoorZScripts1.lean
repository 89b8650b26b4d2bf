/- Texts A1 in one. No condition. -/
import Derived.Lib.ItoaNum
import Derived.Lib.Space
import Derived.Calls
import Derived.Orders
import Derived.Below
import Derived.Laws.Cells
import Derived.Laws.CopyRow
import Derived.Laws.Entries
import Derived.Maps.AppendAt
import Derived.Laws.StructEq
set_option linter.unnecessarySimpa false
set_option linter.unusedSimpArgs false
set_option linter.unusedVariables false
section
section
/- A pure, executable reading of the program's own code over typed values (no memory), with ownership checked as it runs: the definitions. No condition. -/
namespace Go.Proofs.YtoeblmcibheldaaGreatDoor.V
open Go
/-! ### shapes and flags -/
inductive Sh where
 | unit
 | int (k : IntKind)
 | bool
 | str
 | sl (e : TypeId) (s : Sh)
 | pr (a b : Sh)
 deriving DecidableEq
@[reducible] def Sh.ty : Sh → Type
 | .unit => Unit
 | .int _ => Int
 | .bool => Bool
 | .str => ByteArray
 | .sl _ s => List s.ty
 | .pr a b => a.ty × b.ty
def Sh.size : Sh → Nat
 | .unit => 0
 | .int _ => 1
 | .bool => 1
 | .str => 1
 | .sl _ _ => 1
 | .pr a b => a.size + b.size
def Sh.zero : (s : Sh) → s.ty
 | .unit => ()
 | .int _ => (0 : Int)
 | .bool => false
 | .str => ByteArray.empty
 | .sl _ _ => []
 | .pr a b => (a.zero, b.zero)
/-- no slices inside -/
def Sh.plain : Sh → Bool
 | .sl _ _ => false
 | .pr a b => a.plain && b.plain
 | _ => true
/-- fz: memory that nobody writes any more; own: a row of the call's own, its elements' rows too; ownf: a row of the call's own over frozen elements; junk: moved out; io: own, its block and its room known; kz: frozen, its header known -/
inductive Fl where
 | fz | own | ownf | junk
 | pr (a b : Fl)
 | io (n c : Nat)
 | kz (A : Option Addr) (c : Nat)
 deriving DecidableEq
def Fl.l : Fl → Fl
 | .pr a _ => a
 | f => f
def Fl.r : Fl → Fl
 | .pr _ b => b
 | f => f
def Fl.el : Fl → Fl
 | .ownf => .fz
 | .io _ _ => .own
 | .kz _ _ => .fz
 | f => f
def Fl.wr : Fl → Bool
 | .own => true
 | .ownf => true
 | .io _ _ => true
 | _ => false
def Fl.unio : Fl → Fl
 | .io _ _ => .own
 | f => f
/-- every slice is frozen -/
def Fl.allfz : Sh → Fl → Bool
 | .sl _ _, f => match f with | .fz => true | .kz _ _ => true | _ => false
 | .pr a b, f => Fl.allfz a f.l && Fl.allfz b f.r
 | _, _ => true
/-- what is marked f may be marked g -/
def Fl.le : Sh → Fl → Fl → Bool
 | .sl _ s, f, g => match f, g with
  | .fz, .fz => true
  | .own, .own => true
  | .own, .ownf => true
  | .own, .fz => true
  | .ownf, .ownf => true
  | .ownf, .fz => true
  | .ownf, .own => s.plain
  | _, .junk => true
  | _, _ => false
 | .pr a b, f, g => Fl.le a f.l g.l && Fl.le b f.r g.r
 | _, _, _ => true
/-- what is marked f is no less what is marked g -/
def Fl.sub : Sh → Fl → Fl → Bool
 | .sl _ s, f, g => f == g || (s.plain && (f == .own || f == .ownf) && (g == .own || g == .ownf))
 | .pr a b, f, g => Fl.sub a f.l g.l && Fl.sub b f.r g.r
 | _, _, _ => true
/-! ### paths -/
inductive PStep where
 | l | r | el (i : Nat)
 deriving DecidableEq
abbrev Path := List PStep
def get : (s : Sh) → Fl → s.ty → Path → Option ((s' : Sh) × Fl × s'.ty)
 | s, f, x, [] => some ⟨s, f, x⟩
 | .pr a _b, f, x, .l :: p => get a f.l x.1 p
 | .pr _a b, f, x, .r :: p => get b f.r x.2 p
 | .sl _ s, f, xs, .el i :: p => match f with
  | .own => get s f.el (xs.getD i s.zero) p
  | .ownf => get s f.el (xs.getD i s.zero) p
  | .io _ _ => get s .own (xs.getD i s.zero) p
  | _ => none
 | _, _, _, _ => none
def upd (s' : Sh) (f' : Fl) (x' : s'.ty) : (s : Sh) → Fl → s.ty → Path → Option (Fl × s.ty)
 | s, _, _, [] => if h : s' = s then some (f', h ▸ x') else none
 | .pr a b, f, x, .l :: p => match upd s' f' x' a f.l x.1 p with
  | some (g, y) => some (.pr g f.r, (y, x.2))
  | none => none
 | .pr a b, f, x, .r :: p => match upd s' f' x' b f.r x.2 p with
  | some (g, y) => some (.pr f.l g, (x.1, y))
  | none => none
 | .sl _ s, f, xs, .el i :: p => match f with
  | .own => match upd s' f' x' s .own (xs.getD i s.zero) p with
   | some (g, y) => if s.plain || g == .own then some (.own, xs.set i y) else none
   | none => none
  | .ownf => match upd s' f' x' s .fz (xs.getD i s.zero) p with
   | some (g, y) => if s.plain || g == .fz then some (.ownf, xs.set i y) else none
   | none => none
  | .io n c => match upd s' f' x' s .own (xs.getD i s.zero) p with
   | some (g, y) => if s.plain || g == .own then some (.io n c, xs.set i y) else none
   | none => none
  | _ => none
 | _, _, _, _ => none
/-! ### what a temporary holds -/
inductive RK where
 | val (agg : Bool)
 | box (t : TypeId)
 | ibox (t : TypeId) (b : Nat)
 | tup (aggs : List Bool)
 deriving DecidableEq
inductive Cap where
 | adr (g : Nat) (p : Path)
 | fadr (s : Sh) (x : s.ty)
inductive PV where
 | dead
 | v (agg : Bool) (s : Sh) (x : s.ty)
 | emp
 | h (agg : Bool) (g : Nat) (p : Path)
 | adr (g : Nat) (p : Path)
 | fadr (s : Sh) (x : s.ty)
 | root (k : RK) (s : Sh) (f : Fl) (x : s.ty)
 | fn (f : FuncId) (caps : List Cap)
instance : Inhabited PV := ⟨.dead⟩
abbrev St := List PV
def St.at (st : St) (t : Nat) : PV := st.getD t .dead
def PV.isRoot : PV → Bool
 | .root .. => true
 | _ => false
/-- the content of a place -/
def look (st : St) (g : Nat) (p : Path) : Option ((s : Sh) × Fl × s.ty) :=
 match st.at g with
 | .root _ s f x => get s f x p
 | _ => none
/-- p is ahead of q -/
def Path.pre : Path → Path → Bool
 | [], _ => true
 | a :: p, b :: q => a == b && Path.pre p q
 | _ :: _, [] => false
/-- q lies strictly below p -/
def below (p q : Path) : Bool := Path.pre p q && !(Path.pre q p)
def capBelow (g : Nat) (p : Path) : Cap → Bool
 | .adr g' q => g' == g && below p q
 | _ => false
/-- place p of root g has been written: what hung on what stood there is dead -/
def hit (g : Nat) (p : Path) : PV → PV
 | .h agg g' q => if g' == g && (agg || Path.pre p q) then .dead else .h agg g' q
 | .adr g' q => if g' == g && below p q then .dead else .adr g' q
 | .fn f caps => if caps.any (capBelow g p) then .dead else .fn f caps
 | x => x
/-- what lies below place p of root g may have been written, but not p's own cell -/
def hitS (g : Nat) (p : Path) : PV → PV
 | .h agg g' q => if g' == g && (agg || below p q) then .dead else .h agg g' q
 | .adr g' q => if g' == g && below p q then .dead else .adr g' q
 | .fn f caps => if caps.any (capBelow g p) then .dead else .fn f caps
 | x => x
def capUses (g : Nat) : Cap → Bool
 | .adr g' _ => g' == g
 | _ => false
def usesG (g : Nat) : PV → Bool
 | .h _ g' _ => g' == g
 | .adr g' _ => g' == g
 | .fn _ caps => caps.any (capUses g)
 | _ => false
/-- root g is gone -/
def drop (g : Nat) (x : PV) : PV := if usesG g x then .dead else x
/-- write a place: the new content, and what dies of it -/
def put (st : St) (g : Nat) (p : Path) (s' : Sh) (f' : Fl) (x' : s'.ty) (kill : Nat → Path → PV → PV) : Option St :=
 match st.at g with
 | .root k s f x => match upd s' f' x' s f x p with
  | some (f1, x1) => some ((st.map (kill g p)).set g (.root k s f1 x1))
  | none => none
 | _ => none
/-- move a place's content out -/
def take (st : St) (g : Nat) (p : Path) : Option (((s : Sh) × Fl × s.ty) × St) :=
 match st.at g with
 | .root (.val agg) s f x => match p with
  | [] => some (⟨s, f, x⟩, (st.map (drop g)).set g .dead)
  | _ => match get s f x p with
   | some ⟨s1, f1, x1⟩ => match put st g p s1 .junk x1 hit with
    | some st' => some (⟨s1, f1, x1⟩, st')
    | none => none
   | none => none
 | .root _ s f x => match get s f x p with
  | some ⟨s1, f1, x1⟩ => match put st g p s1 .junk x1 hit with
   | some st' => some (⟨s1, f1, x1⟩, st')
   | none => none
  | none => none
 | _ => none
/-! ### tables -/
structure TI where
 sh : Sh
 agg : Bool
 bytes : Nat
 /-- the number of fields of a struct -/
 nf : Nat := 0
 /-- the fields: whether a struct, shape -/
 fs : List (Bool × Sh) := []
 /-- a struct of scalars that is compared -/
 cmp : Bool := false
def tget {α : Type} : List (Nat × α) → Nat → Option α
 | [], _ => none
 | (n, i) :: r, t => if n == t then some i else tget r t
structure FI where
 fn : Func
 /-- the temporaries that live at the head of the loop of a block -/
 ann : List (Nat × List Nat) := []
 /-- the results: a struct or one cell, shape, flags -/
 res : List (Bool × Sh × Fl) := []
 /-- parameters that are written: number, shape, flags at the end -/
 io : List (Nat × Sh × Fl) := []
structure Env where
 T : List (Nat × TI)
 Fs : List (Nat × FI)
def nest : List Sh → Sh
 | [] => .unit
 | [s] => s
 | s :: r => .pr s (nest r)
def FI.shapes (i : FI) : List Sh := i.res.map (·.2.1) ++ i.io.map (·.2.1)
def Env.fi (E : Env) (f : Nat) : Option FI := tget E.Fs f
def Env.rs (E : Env) (f : Nat) : Sh := match E.fi f with | some i => nest i.shapes | none => .unit
/-- the path to field i of n -/
def fpath : Nat → Nat → Path
 | 0, n => if n ≤ 1 then [] else [.l]
 | i + 1, n => .r :: fpath i (n - 1)
/-! ### operands -/
def cvalue : Value → PV
 | .int k n => .v false (.int k) n
 | .bool b => .v false .bool b
 | .string s => .v false .str s
 | .slice none 0 0 => .emp
 | _ => .dead
def ev (st : St) : Operand → PV
 | .tmp t => st.at t
 | .const c => cvalue c
 | .func f => .fn f []
 | .global _ => .dead
/-- an operand as a copy: roots are named, not copied -/
def ref (st : St) (x : Operand) : PV :=
 match x with
 | .tmp t => match st.at t with
  | .root (.val agg) _ _ _ => .h agg t []
  | .root (.box _) _ _ _ => .adr t []
  | .root (.ibox _ _) _ _ _ => .adr t []
  | .root (.tup _) _ _ _ => .dead
  | pv => pv
 | x => ev st x
/-- what a temporary holds after a load of place (s, f, x) = place p of g -/
def loaded (agg : Bool) (g : Nat) (p : Path) (s : Sh) (f : Fl) (x : s.ty) : PV :=
 if s.plain || Fl.allfz s f then .v agg s x else .h agg g p
def castTo (s' s : Sh) (x : s'.ty) : Option s.ty := if h : s' = s then some (h ▸ x) else none
theorem castTo_self (s : Sh) (x : s.ty) : castTo s s x = some x := by simp [castTo]
def Fl.good : Fl → Bool
 | .fz => true
 | .own => true
 | .ownf => true
 | .io _ _ => true
 | .kz _ _ => true
 | _ => false
def Sh.isSl : Sh → Bool
 | .sl _ _ => true
 | _ => false
/-- a slice's elements, read (the roots as 'rt' has them) -/
def rowOf (rt : St) (e : TypeId) (s : Sh) : PV → Option (List s.ty)
 | .emp => some []
 | .v false s' x => castTo s' (.sl e s) x
 | .h false g p => match look rt g p with
  | some ⟨s', f, x⟩ => if f.good = true then castTo s' (.sl e s) x else none
  | none => none
 | _ => none
def lenOf (rt : St) : PV → Option Nat
 | .emp => some 0
 | .v false (.sl _ _) x => some x.length
 | .h false g p => match look rt g p with
  | some ⟨.sl _ _, f, x⟩ => if f.good = true then some x.length else none
  | _ => none
 | _ => none
/-- a value of which a new owner is wanted: frozen things as they are, one's own is moved -/
def grab (st : St) (agg : Bool) (s : Sh) : PV → Option (Fl × s.ty × St)
 | .v agg' s' x => if agg' = agg then match castTo s' s x with
  | some y => some (.fz, y, st)
  | none => none else none
 | .emp => if agg = false ∧ s.isSl = true then some (.own, s.zero, st) else none
 | .h agg' g p => if agg' = agg then match take st g p with
  | some (⟨s', f, x⟩, st') => match castTo s' s x with
   | some y => some (f, y, st')
   | none => none
  | none => none else none
 | _ => none
def PV.isH : PV → Bool
 | .h .. => true
 | _ => false
def PV.isEmp : PV → Bool
 | .emp => true
 | _ => false
/-- equality of what has no slices -/
def eqv : (s : Sh) → s.ty → s.ty → Bool
 | .unit, _, _ => true
 | .int _, x, y => decide (x = y)
 | .bool, x, y => x == y
 | .str, x, y => x == y
 | .sl _ _, _, _ => false
 | .pr a b, x, y => eqv a x.1 y.1 && eqv b x.2 y.2
/-- what an operation does: the condition under which it doesn't panic, whether it writes its own slot alone, the state behind what it moved, what its slot holds -/
structure Out where
 c : Bool
 cl : Bool
 st : St
 pv : PV
def intop (op : BinOp) (k : IntKind) (a b : Int) : Option (Bool × PV) :=
 match op with
 | .add => some (true, .v false (.int k) (k.wrap (a + b)))
 | .sub => some (true, .v false (.int k) (k.wrap (a - b)))
 | .mul => some (true, .v false (.int k) (k.wrap (a * b)))
 | .quo => some (!(decide (b = 0)), .v false (.int k) (k.wrap (a.tdiv b)))
 | .rem => some (!(decide (b = 0)), .v false (.int k) (a.tmod b))
 | .and => some (true, .v false (.int k) (k.wrap (BitVec.ofInt k.bits a &&& BitVec.ofInt k.bits b).toNat))
 | .or => some (true, .v false (.int k) (k.wrap (BitVec.ofInt k.bits a ||| BitVec.ofInt k.bits b).toNat))
 | .xor => some (true, .v false (.int k) (k.wrap (BitVec.ofInt k.bits a ^^^ BitVec.ofInt k.bits b).toNat))
 | .andNot => some (true, .v false (.int k) (k.wrap (BitVec.ofInt k.bits a &&& ~~~ (BitVec.ofInt k.bits b)).toNat))
 | .eql => some (true, .v false .bool (a == b))
 | .neq => some (true, .v false .bool (!(a == b)))
 | .lss => some (true, .v false .bool (decide (a < b)))
 | .leq => some (true, .v false .bool (decide (a ≤ b)))
 | .gtr => some (true, .v false .bool (decide (a > b)))
 | .geq => some (true, .v false .bool (decide (a ≥ b)))
 | _ => none
def binop (op : BinOp) : PV → PV → Option (Bool × PV)
 | .v false (.int k) a, .v false (.int k') b =>
  match op with
  | .shl => some (decide (0 ≤ b), .v false (.int k) (k.wrap (a * 2 ^ (min b.toNat k.bits))))
  | .shr => some (decide (0 ≤ b), .v false (.int k) (a.fdiv (2 ^ (min b.toNat k.bits))))
  | op => if k = k' then intop op k a b else none
 | .v false .str a, .v false .str b =>
  match op with
  | .eql => some (true, .v false .bool (a.toList == b.toList))
  | .neq => some (true, .v false .bool (!(a.toList == b.toList)))
  | .add => some (decide (a.size + b.size ≤ 9223372036854775807), .v false .str (a ++ b))
  | _ => none
 | _, _ => none
/-- bools, and structs of whole numbers, bools, strings compared -/
def eqop (op : BinOp) (agg : Bool) (s : Sh) : PV → PV → Option PV
 | .v a1 s1 a, .v a2 s2 b => if a1 = agg ∧ a2 = agg then match castTo s1 s a, castTo s2 s b with
  | some a, some b => match op with
    | .eql => some (.v false .bool (eqv s a b))
    | .neq => some (.v false .bool (!(eqv s a b)))
    | _ => none
  | _, _ => none else none
 | _, _ => none
def unop (op : UnOp) (x : PV) : Option PV :=
 match op, x with
 | .not, .v false .bool b => some (.v false .bool (!b))
 | .neg, .v false (.int k) a => some (.v false (.int k) (k.wrap (0 - a)))
 | _, _ => none
/-- the fields of a composite, laid one after the other: the shapes and whether they are structs -/
def fillSt (n : Nat) (fs : List (Bool × Sh)) : List (Nat × Operand) → St → (s : Sh) → Fl → s.ty → Option (Fl × s.ty × St)
 | [], st, _, f, x => some (f, x, st)
 | (i, o) :: r, st, s, f, x => match fs[i]? with
  | some (agg, s1) => if i < n then match grab st agg s1 (ref st o) with
   | some (f1, x1, st1) => match upd s1 f1 x1 s f x (fpath i n) with
    | some (f2, x2) => fillSt n fs r st1 s f2 x2
    | none => none
   | none => none else none
  | none => none
/-- the elements of a literal; 'g': their flags -/
def fillRow (agg : Bool) (s : Sh) (g : Fl) : List (Nat × Operand) → St → List s.ty → Option (List s.ty × St)
 | [], st, xs => some (xs, st)
 | (i, o) :: r, st, xs => match grab st agg s (ref st o) with
  | some (f1, x1, st1) => if i < xs.length ∧ (Fl.sub s f1 g || (ref st o).isEmp) = true then fillRow agg s g r st1 (xs.set i x1) else none
  | none => none
def limOk (n bytes : Nat) : Bool := decide (n * bytes ≤ 140737488355328 ∧ n ≤ 140737488355328)
def noH (st : St) (xs : List (Nat × Operand)) : Bool := xs.all fun p => !(ref st p.2).isH
/-- the shapes of a struct's fields -/
def fieldsOf : Nat → Sh → List Sh
 | 0, _ => []
 | 1, s => [s]
 | n + 1, .pr a b => a :: fieldsOf n b
 | _ + 1, _ => []
def cOf (st : St) (x : Operand) : Option Cap := match ref st x with
 | .adr g p => some (Cap.adr g p)
 | .fadr s y => some (Cap.fadr s y)
 | _ => none
def capsOf (st : St) : List Operand → Option (List Cap)
 | [] => some []
 | x :: r => match cOf st x, capsOf st r with
  | some c, some cs => some (c :: cs)
  | _, _ => none
def bound (st : St) (d : Int) : Option Operand → Option Int
 | none => some d
 | some y => match ref st y with
  | .v false (.int _) n => some n
  | _ => none
/-- the head of an append: its elements so far, moved -/
def headRow (st : St) (e : TypeId) (s : Sh) (g : Fl) : PV → Option (List s.ty × St)
 | .emp => some ([], st)
 | .h false r p => match take st r p with
  | some (⟨s', f, x⟩, st') => match castTo s' (.sl e s) x with
   | some xs => if f = g ∨ (s.plain ∧ (f = .own ∨ f = .ownf)) then some (xs, st') else none
   | none => none
  | none => none
 | _ => none
/-- a tuple moves on -/
def moveTup (st : St) : Operand → Option Out
 | .tmp t => match st.at t with
  | .root (.tup ag) s f x => some (if s.plain then ⟨true, true, st, .root (.tup ag) s .fz x⟩ else ⟨true, false, (st.map (drop t)).set t .dead, .root (.tup ag) s f x⟩)
  | _ => none
 | _ => none
/-- the nil pointer -/
def nilP : Operand → Bool
 | .const (.pointer none) => true
 | _ => false
/-- one operation that is no call of a function of the program; rt: the roots as they are read -/
def pop (T : List (Nat × TI)) (rt st : St) (o : Oper) : Option Out :=
 match o.op with
 | .move x => match moveTup st x with
  | some out => some out
  | none => match ref st x with
   | .dead => none
   | pv => some ⟨true, true, st, pv⟩
 | .assign x => match ref st x with
  | .dead => if nilP x then some ⟨true, true, st, .dead⟩ else none
  | pv => some ⟨true, true, st, pv⟩
 | .pick c a b => match ev st c with
  | .v false .bool t => match t with
   | true => match ref st a with
    | .dead => none
    | pv => some ⟨true, true, st, pv⟩
   | false => match ref st b with
    | .dead => none
    | pv => some ⟨true, true, st, pv⟩
  | _ => none
 | .alloc t => match tget T t with
  | some i => some ⟨true, true, st, .root (.box t) i.sh .own i.sh.zero⟩
  | none => none
 | .box t x => match tget T t with
  | some i => match grab st i.agg i.sh (ref st x) with
   | some (f, y, st') => some ⟨true, !(ref st x).isH, st', .root (.box t) i.sh f y⟩
   | none => none
  | none => none
 | .build t parts => match tget T t with
  | some i => if i.agg = true then match fillSt i.nf i.fs parts.toList st i.sh .own i.sh.zero with
   | some (f, x, st') => some ⟨true, noH st parts.toList, st', if i.sh.plain || Fl.allfz i.sh f then .v true i.sh x else .root (.val true) i.sh f x⟩
   | none => none else none
  | none => none
 | .buildSlice t n parts => match n with
  | 0 => match tget T t with
   | some ⟨.sl e s, false, _, _, _, _⟩ => if parts.isEmpty then some ⟨true, true, st, .emp⟩ else none
   | _ => none
  | _ => match tget T t with
   | some ⟨.sl e s, false, _, _, _, _⟩ => match tget T e with
    | some i => if i.sh = s ∧ n * s.size ≤ 16777216 then match fillRow i.agg s (if noH st parts.toList then .fz else .own) parts.toList st (List.replicate n s.zero) with
      | some (xs, st') => some ⟨true, noH st parts.toList, st', .root (.val false) (.sl e s) (if s.plain || !(noH st parts.toList) then .own else .ownf) xs⟩
      | none => none else none
    | none => none
   | _ => none
 | .load t a => match tget T t with
  | some i => match ref st a with
   | .adr g p => match look rt g p with
    | some ⟨s, f, x⟩ => if s = i.sh then some ⟨true, true, st, loaded i.agg g p s f x⟩ else none
    | none => none
   | .fadr s x => if s = i.sh then some ⟨true, true, st, .v i.agg s x⟩ else none
   | _ => none
  | none => none
 | .store t a y => match tget T t with
  | some i => match grab st i.agg i.sh (ref st y) with
   | some (f, x, st') => match ref st' a with
    | .adr g p => match put st' g p i.sh f x hit with
     | some st2 => some ⟨true, false, st2, .dead⟩
     | none => none
    | _ => none
   | none => none
  | none => none
 | .nilCheck x => match ref st x with
  | .adr g p => some ⟨true, true, st, .adr g p⟩
  | .fadr s y => some ⟨true, true, st, .fadr s y⟩
  | _ => none
 | .binOp op t x y _ => match binop op (ref st x) (ref st y) with
  | some (c, pv) => some ⟨c, true, st, pv⟩
  | none => match tget T t with
   | some i => if i.agg && i.cmp || !i.agg && i.sh == .bool then match eqop op i.agg i.sh (ref st x) (ref st y) with
    | some pv => some ⟨true, true, st, pv⟩
    | none => none else none
   | none => none
 | .unOp op _ x => match unop op (ref st x) with
  | some pv => some ⟨true, true, st, pv⟩
  | none => none
 | .convert src dst x => match tget T dst with
  | some ⟨.int k, false, _, _, _, _⟩ => match ref st x with
   | .v false (.int _) a => match tget T src with
    | some _ => some ⟨true, true, st, .v false (.int k) (k.wrap a)⟩
    | none => none
   | _ => none
  | _ => none
 | .makeFunc (.func f) first caps => if first.isEmpty then match capsOf st caps.toList with
   | some cs => some ⟨true, true, st, .fn f cs⟩
   | none => none else none
 | .makeSlice t l c => match tget T t with
  | some ⟨.sl e s, false, _, _, _, _⟩ => match tget T e with
   | some i => match ref st l, ref st c with
    | .v false (.int .i64) n, .v false (.int .i64) m => if i.sh = s then some ⟨decide (0 ≤ n ∧ n = m) && limOk n.toNat i.bytes, true, st, .root (.val false) (.sl e s) .own (List.replicate n.toNat s.zero)⟩ else none
    | _, _ => none
   | none => none
  | _ => none
 | .slice t x lo hi none => match tget T t with
  | some ⟨.sl e s, false, _, _, _, _⟩ => match ref st x with
   | .v false s' xs => match castTo s' (.sl e s) xs with
    | some xs => match bound st 0 lo, bound st (xs : List s.ty).length hi with
     | some a, some b => some ⟨decide (0 ≤ a ∧ a ≤ b ∧ b ≤ (xs : List s.ty).length), true, st, .v false (.sl e s) (((xs : List s.ty).take b.toNat).drop a.toNat)⟩
     | _, _ => none
    | none => none
   | .emp => match bound st 0 lo, bound st 0 hi with
    | some a, some b => some ⟨decide (0 ≤ a ∧ a ≤ b ∧ b ≤ 0), true, st, .emp⟩
    | _, _ => none
   | .h false g p => match lo with
    | some _ => none
    | none => match take st g p with
     | some (⟨s', f, xs⟩, st') => match castTo s' (.sl e s) xs with
      | some xs => match bound st (xs : List s.ty).length hi with
       | some b => if f.wr = true then some ⟨decide (0 ≤ b ∧ b ≤ (xs : List s.ty).length), false, st', .root (.val false) (.sl e s) f.unio ((xs : List s.ty).take b.toNat)⟩ else none
       | none => none
      | none => none
     | none => none
   | _ => none
  | some ⟨.str, false, _, _, _, _⟩ => match ref st x with
   | .v false .str xs => match bound st 0 lo, bound st xs.size hi with
    | some a, some b => some ⟨decide (0 ≤ a ∧ a ≤ b ∧ b ≤ xs.size), true, st, .v false .str (xs.extract a.toNat b.toNat)⟩
    | _, _ => none
   | _ => none
  | _ => none
 | .fieldAddr t x n => match tget T t with
  | some i => match ref st x with
   | .adr g p => match look rt g p with
    | some ⟨s, _, _⟩ => if s = i.sh ∧ n < i.nf ∧ i.agg = true then some ⟨true, true, st, .adr g (p ++ fpath n i.nf)⟩ else none
    | none => none
   | .fadr s y => match castTo s i.sh y with
    | some y => match get i.sh .fz y (fpath n i.nf) with
     | some ⟨s', _, y'⟩ => if n < i.nf ∧ i.agg = true then some ⟨true, true, st, .fadr s' y'⟩ else none
     | none => none
    | none => none
   | _ => none
  | none => none
 | .field t x n => match tget T t with
  | some i => match ref st x, i.fs[n]? with
   | .h true g p, some (agg, s1) => match look rt g p with
    | some ⟨s, f, y⟩ => if s = i.sh then match get s f y (fpath n i.nf) with
     | some ⟨s', f', y'⟩ => if s' = s1 ∧ n < i.nf ∧ i.agg = true ∧ (agg || s'.plain || s'.isSl) = true then some ⟨true, true, st, loaded agg g (p ++ fpath n i.nf) s' f' y'⟩ else none
     | none => none else none
    | none => none
   | .v true s y, some (agg, s1) => match castTo s i.sh y with
    | some y => match get i.sh .fz y (fpath n i.nf) with
     | some ⟨s', _, y'⟩ => if s' = s1 ∧ n < i.nf ∧ i.agg = true then some ⟨true, true, st, .v agg s' y'⟩ else none
     | none => none
    | none => none
   | _, _ => none
  | none => none
 | .indexAddr t x y => match tget T t with
  | some ⟨.sl e s, false, _, _, _, _⟩ => match ref st y with
   | .v false (.int _) n => match ref st x with
    | .v false s' xs => match castTo s' (.sl e s) xs with
     | some xs => some ⟨decide (0 ≤ n ∧ n < (xs : List s.ty).length), true, st, .fadr s ((xs : List s.ty).getD n.toNat s.zero)⟩
     | none => none
    | .h false g p => match look rt g p with
     | some ⟨s', f, xs⟩ => if f.wr = true then match castTo s' (.sl e s) xs with
      | some xs => some ⟨decide (0 ≤ n ∧ n < (xs : List s.ty).length), true, st, .adr g (p ++ [.el n.toNat])⟩
      | none => none else none
     | none => none
    | .emp => some ⟨false, true, st, .fadr s s.zero⟩
    | _ => none
   | _ => none
  | _ => none
 | .index t x y => match tget T t with
  | some ⟨.str, false, _, _, _, _⟩ => match ref st x, ref st y with
   | .v false .str xs, .v false (.int _) n => some ⟨decide (0 ≤ n ∧ n < xs.size), true, st, .v false (.int .u8) (if h : n.toNat < xs.size then ((xs[n.toNat]'h).toNat : Int) else 0)⟩
   | _, _ => none
  | _ => none
 | .extract (.tmp t) n => match rt.at t with
  | .root (.tup aggs) s f x => match aggs[n]?, get s f x (fpath n aggs.length) with
   | some g, some ⟨s', f', x'⟩ => some ⟨true, true, st, loaded g t (fpath n aggs.length) s' f' x'⟩
   | _, _ => none
  | _ => none
 | .call ⟨.builtin .len, args, ts⟩ => match args.toList, ts.toList with
  | [x], [t] => match tget T t with
   | some ⟨.sl _ _, false, _, _, _, _⟩ => match lenOf rt (ref st x) with
    | some n => some ⟨true, true, st, .v false (.int .i64) (n : Int)⟩
    | none => none
   | some ⟨.str, false, _, _, _, _⟩ => match ref st x with
    | .v false .str s => some ⟨true, true, st, .v false (.int .i64) (s.size : Int)⟩
    | _ => none
   | _ => none
  | _, _ => none
 | .call ⟨.builtin .min, args, _⟩ => match args.toList with
  | [x, y] => match ref st x, ref st y with
   | .v false (.int .i64) a, .v false (.int .i64) b => some ⟨true, true, st, .v false (.int .i64) (if b < a then b else a)⟩
   | _, _ => none
  | _ => none
 | .call ⟨.builtin .max, args, _⟩ => match args.toList with
  | [x, y] => match ref st x, ref st y with
   | .v false (.int .i64) a, .v false (.int .i64) b => some ⟨true, true, st, .v false (.int .i64) (if a < b then b else a)⟩
   | _, _ => none
  | _ => none
 | .call ⟨.builtin .append, args, ts⟩ => match args.toList, ts.toList with
  | [x, y], [t, t'] => match tget T t with
   | some ⟨.sl e s, false, _, _, _, _⟩ => match tget T e with
    | some i => if i.sh = s ∧ t = t' then
      if s.plain || !(ref st y).isH then
       match rowOf rt e s (ref st y) with
       | some ys => match headRow st e s (if s.plain then .own else .ownf) (ref st x) with
        | some (xs, st') => some ⟨limOk (xs.length + ys.length) i.bytes, !(ref st x).isH, st', .root (.val false) (.sl e s) (if s.plain then .own else .ownf) (xs ++ ys)⟩
        | none => none
       | none => none
      else
       match headRow st e s .own (ref st y) with
       | some (ys, st1) => match headRow st1 e s .own (ref st1 x) with
        | some (xs, st2) => some ⟨limOk (xs.length + ys.length) i.bytes, false, st2, .root (.val false) (.sl e s) .own (xs ++ ys)⟩
        | none => none
       | none => none
     else none
    | none => none
   | _ => none
  | _, _ => none
 | _ => none
end Go.Proofs.YtoeblmcibheldaaGreatDoor.V
end
section
/- The reading against memory: what represents a typed value (frozen or one's own), and the laws of places in it. No condition. -/
namespace Go.Proofs.YtoeblmcibheldaaGreatDoor.V
open Go
/-- a row of the call's own -/
def OwnR {α : Type} (w : World) (e : TypeId) (n : Nat) (R : α → List Value → (Nat → Prop) → Prop) (z : α) (xs : List α) (cs : List Value) (B : Nat → Prop) : Prop :=
 (∃ A, cs = [.slice A 0 0] ∧ xs = []) ∨
 ∃ g cap cur, ∃ rows : Nat → List Value, ∃ Bs : Nat → Nat → Prop, cs = [.slice (some ⟨g, 0, none⟩) xs.length cap] ∧ w.heap[g]? = some (.cells cur e (0, 0)) ∧ xs.length ≤ cap ∧ cap ≤ maxLen ∧ cur.size = cap * n ∧ B g ∧
  (∀ i, i < xs.length → (rows i).length = n ∧ (∀ j, j < n → cur[i * n + j]? = (rows i)[j]?) ∧ (∀ b, Bs i b → B b ∧ b ≠ g) ∧ R (xs.getD i z) (rows i) (Bs i)) ∧
  (∀ i j b, i < xs.length → j < xs.length → i ≠ j → Bs i b → Bs j b → False)
/-- a row of frozen memory -/
def FzR {α : Type} (w : World) (Z : Nat → Prop) (n : Nat) (R : α → List Value → Prop) (z : α) (xs : List α) (cs : List Value) : Prop :=
 ∃ A c, cs = [.slice A xs.length c] ∧ xs.length ≤ c ∧ xs.length ≤ maxLen ∧ (0 < xs.length → ∃ ad : Addr, A = some ad ∧ Z ad.block ∧ ∀ i, i < xs.length → ∃ c' : List Value, c'.length = n ∧ (∀ j, j < n → w.cell? (ad.add (i * n + j)) = c'[j]?) ∧ R (xs.getD i z) c')
def Rep (w : World) (Z : Nat → Prop) : (s : Sh) → Fl → s.ty → List Value → (Nat → Prop) → Prop
 | .unit, _, _, cs, _ => cs = []
 | .int k, _, x, cs, _ => cs = [.int k x]
 | .bool, _, x, cs, _ => cs = [.bool x]
 | .str, _, x, cs, _ => cs = [.string x]
 | .pr a b, f, x, cs, B => ∃ c1 c2, ∃ B1 B2 : Nat → Prop, cs = c1 ++ c2 ∧ (∀ n, B1 n → B n) ∧ (∀ n, B2 n → B n) ∧ (∀ n, B1 n → B2 n → False) ∧ Rep w Z a f.l x.1 c1 B1 ∧ Rep w Z b f.r x.2 c2 B2
 | .sl e s, f, xs, cs, B => match f with
  | .fz => FzR w Z s.size (fun x c => Rep w Z s .fz x c (fun _ => False)) s.zero xs cs
  | .own => OwnR w e s.size (fun x c B' => Rep w Z s .own x c B') s.zero xs cs B
  | .ownf => OwnR w e s.size (fun x c B' => Rep w Z s .fz x c B') s.zero xs cs B
  | .io n c => OwnR w e s.size (fun x c B' => Rep w Z s .own x c B') s.zero xs cs B ∧ cs = [.slice (some ⟨n, 0, none⟩) (List.length xs) c]
  | .kz A c => FzR w Z s.size (fun x c => Rep w Z s .fz x c (fun _ => False)) s.zero xs cs ∧ cs = [.slice A (List.length xs) c]
  | _ => ∃ v : Value, cs = [v] ∧ v.oneCell' = true
theorem OwnR.imp {α : Type} {w : World} {e : TypeId} {n : Nat} {R R' : α → List Value → (Nat → Prop) → Prop} {z : α} {xs : List α} {cs : List Value} {B : Nat → Prop} (h : OwnR w e n R z xs cs B)
  (k : ∀ i c B', i < xs.length → R (xs.getD i z) c B' → R' (xs.getD i z) c B') : OwnR w e n R' z xs cs B := by
 rcases h with h | ⟨g, cap, cur, rows, Bs, h1, h2, h3, h4, h5, h6, h7, h8⟩
 ·exact .inl h
 ·exact .inr ⟨g, cap, cur, rows, Bs, h1, h2, h3, h4, h5, h6, fun i hi => ⟨(h7 i hi).1, (h7 i hi).2.1, (h7 i hi).2.2.1, k i _ _ hi (h7 i hi).2.2.2⟩, h8⟩
theorem FzR.imp {α : Type} {w : World} {Z : Nat → Prop} {n : Nat} {R R' : α → List Value → Prop} {z : α} {xs : List α} {cs : List Value} (h : FzR w Z n R z xs cs)
  (k : ∀ i c, i < xs.length → R (xs.getD i z) c → R' (xs.getD i z) c) : FzR w Z n R' z xs cs := by
 obtain ⟨A, c, h1, h2, h3, h4⟩ := h
 refine ⟨A, c, h1, h2, h3, fun hp => ?_⟩
 obtain ⟨ad, e1, e2, e3⟩ := h4 hp
 refine ⟨ad, e1, e2, fun i hi => ?_⟩
 obtain ⟨c', q1, q2, q3⟩ := e3 i hi
 exact ⟨c', q1, q2, k i _ hi q3⟩
theorem Rep.len {w : World} {Z : Nat → Prop} : ∀ {s : Sh} {f : Fl} {x : s.ty} {cs : List Value} {B : Nat → Prop}, Rep w Z s f x cs B → cs.length = s.size
 | .unit, _, _, _, _, h => by simp only [Rep] at h; subst h; rfl
 | .int _, _, _, _, _, h => by simp only [Rep] at h; subst h; rfl
 | .bool, _, _, _, _, h => by simp only [Rep] at h; subst h; rfl
 | .str, _, _, _, _, h => by simp only [Rep] at h; subst h; rfl
 | .pr a b, _, _, _, _, h => by
  obtain ⟨c1, c2, B1, B2, rfl, _, _, _, h1, h2⟩ := h
  rw [List.length_append, h1.len, h2.len]; rfl
 | .sl e s, f, xs, cs, B, h => by
  cases f with
  | fz => obtain ⟨A, c, rfl, _⟩ := h; rfl
  | own => rcases h with ⟨A, rfl, _⟩ | ⟨g, cap, cur, rows, Bs, rfl, _⟩ <;> rfl
  | ownf => rcases h with ⟨A, rfl, _⟩ | ⟨g, cap, cur, rows, Bs, rfl, _⟩ <;> rfl
  | io n c => rw [h.2]; rfl
  | kz A c => rw [h.2]; rfl
  | junk => obtain ⟨v, rfl, _⟩ := h; rfl
  | pr => obtain ⟨v, rfl, _⟩ := h; rfl
theorem Rep.one {w : World} {Z : Nat → Prop} : ∀ {s : Sh} {f : Fl} {x : s.ty} {cs : List Value} {B : Nat → Prop}, Rep w Z s f x cs B → ∀ u ∈ cs, u.oneCell' = true
 | .unit, _, _, _, _, h => by simp only [Rep] at h; subst h; simp
 | .int _, _, _, _, _, h => by simp only [Rep] at h; subst h; simp [Value.oneCell']
 | .bool, _, _, _, _, h => by simp only [Rep] at h; subst h; simp [Value.oneCell']
 | .str, _, _, _, _, h => by simp only [Rep] at h; subst h; simp [Value.oneCell']
 | .pr a b, _, _, _, _, h => by
  obtain ⟨c1, c2, B1, B2, rfl, _, _, _, h1, h2⟩ := h
  intro u hu
  rcases List.mem_append.1 hu with hu | hu
  ·exact h1.one u hu
  ·exact h2.one u hu
 | .sl e s, f, xs, cs, B, h => by
  cases f with
  | fz => obtain ⟨A, c, rfl, _⟩ := h; simp [Value.oneCell']
  | own => rcases h with ⟨A, rfl, _⟩ | ⟨g, cap, cur, rows, Bs, rfl, _⟩ <;> simp [Value.oneCell']
  | ownf => rcases h with ⟨A, rfl, _⟩ | ⟨g, cap, cur, rows, Bs, rfl, _⟩ <;> simp [Value.oneCell']
  | io n c => rw [h.2]; simp [Value.oneCell']
  | kz A c => rw [h.2]; simp [Value.oneCell']
  | junk => obtain ⟨v, rfl, h1⟩ := h; simpa using h1
  | pr => obtain ⟨v, rfl, h1⟩ := h; simpa using h1
theorem Rep.mono {w : World} {Z : Nat → Prop} : ∀ {s : Sh} {f : Fl} {x : s.ty} {cs : List Value} {B B' : Nat → Prop}, (∀ b, B b → B' b) → Rep w Z s f x cs B → Rep w Z s f x cs B'
 | .unit, _, _, _, _, _, _, h => h
 | .int _, _, _, _, _, _, _, h => h
 | .bool, _, _, _, _, _, _, h => h
 | .str, _, _, _, _, _, _, h => h
 | .pr a b, _, _, _, _, _, k, h => by
  obtain ⟨c1, c2, B1, B2, e, h1, h2, h3, h4, h5⟩ := h
  exact ⟨c1, c2, B1, B2, e, fun n hn => k n (h1 n hn), fun n hn => k n (h2 n hn), h3, h4, h5⟩
 | .sl e s, f, xs, cs, B, B', k, h => by
  have aux : ∀ (R : s.ty → List Value → (Nat → Prop) → Prop), OwnR w e s.size R s.zero xs cs B → OwnR w e s.size R s.zero xs cs B' := by
   intro R h
   rcases h with h | ⟨g, cap, cur, rows, Bs, h1, h2, h3, h4, h5, h6, h7, h8⟩
   ·exact .inl h
   ·exact .inr ⟨g, cap, cur, rows, Bs, h1, h2, h3, h4, h5, k g h6, fun i hi => ⟨(h7 i hi).1, (h7 i hi).2.1, fun b hb => ⟨k b ((h7 i hi).2.2.1 b hb).1, ((h7 i hi).2.2.1 b hb).2⟩, (h7 i hi).2.2.2⟩, h8⟩
  cases f with
  | fz => exact h
  | own => exact aux _ h
  | ownf => exact aux _ h
  | io n c => exact ⟨aux _ h.1, h.2⟩
  | kz A c => exact h
  | junk => exact h
  | pr => exact h
/-- what represents a value depends on the blocks of the frozen zone and on its own blocks alone -/
theorem Rep.frame {w w' : World} {Z Z' : Nat → Prop} (hz : ∀ b, Z b → Z' b) : ∀ {s : Sh} {f : Fl} {x : s.ty} {cs : List Value} {B : Nat → Prop}, (∀ b, Z b ∨ B b → w'.heap[b]? = w.heap[b]?) → Rep w Z s f x cs B → Rep w' Z' s f x cs B
 | .unit, _, _, _, _, _, h => h
 | .int _, _, _, _, _, _, h => h
 | .bool, _, _, _, _, _, h => h
 | .str, _, _, _, _, _, h => h
 | .pr a b, _, _, _, _, k, h => by
  obtain ⟨c1, c2, B1, B2, e, h1, h2, h3, h4, h5⟩ := h
  exact ⟨c1, c2, B1, B2, e, h1, h2, h3, h4.frame hz (fun b hb => k b (hb.imp id (h1 b))), h5.frame hz (fun b hb => k b (hb.imp id (h2 b)))⟩
 | .sl e s, f, xs, cs, B, k, h => by
  have aux : ∀ f' : Fl, OwnR w e s.size (fun x c B' => Rep w Z s f' x c B') s.zero xs cs B → OwnR w' e s.size (fun x c B' => Rep w' Z' s f' x c B') s.zero xs cs B := by
   intro f' h
   rcases h with h | ⟨g, cap, cur, rows, Bs, h1, h2, h3, h4, h5, h6, h7, h8⟩
   ·exact .inl h
   ·exact .inr ⟨g, cap, cur, rows, Bs, h1, (k g (.inr h6)).trans h2, h3, h4, h5, h6, fun i hi => ⟨(h7 i hi).1, (h7 i hi).2.1, (h7 i hi).2.2.1, (h7 i hi).2.2.2.frame hz (fun b hb => k b (hb.imp id fun hb => ((h7 i hi).2.2.1 b hb).1))⟩, h8⟩
  have auxz : FzR w Z s.size (fun x c => Rep w Z s .fz x c (fun _ => False)) s.zero xs cs → FzR w' Z' s.size (fun x c => Rep w' Z' s .fz x c (fun _ => False)) s.zero xs cs := by
   intro h
   obtain ⟨A, c, h1, h2, h3, h4⟩ := h
   refine ⟨A, c, h1, h2, h3, fun hp => ?_⟩
   obtain ⟨ad, e1, e2, e3⟩ := h4 hp
   refine ⟨ad, e1, hz _ e2, fun i hi => ?_⟩
   obtain ⟨c', q1, q2, q3⟩ := e3 i hi
   refine ⟨c', q1, fun j hj => ?_, q3.frame hz (fun b hb => k b (hb.imp id False.elim))⟩
   rw [← q2 j hj]
   refine World.cell?_of_block ?_
   have hb : (ad.add (i * s.size + j)).block = ad.block := by unfold Addr.add; split <;> rfl
   rw [hb]
   exact k _ (.inl e2)
  cases f with
  | fz => exact auxz h
  | own => exact aux _ h
  | ownf => exact aux _ h
  | io n c => exact ⟨aux _ h.1, h.2⟩
  | kz A c => exact ⟨auxz h.1, h.2⟩
  | junk => exact h
  | pr => exact h
/-- of what has no slices nothing in memory is told -/
theorem Rep.plain {w w' : World} {Z Z' : Nat → Prop} : ∀ {s : Sh} {f f' : Fl} {x : s.ty} {cs : List Value} {B B' : Nat → Prop}, s.plain = true → Rep w Z s f x cs B → Rep w' Z' s f' x cs B'
 | .unit, _, _, _, _, _, _, _, h => h
 | .int _, _, _, _, _, _, _, _, h => h
 | .bool, _, _, _, _, _, _, _, h => h
 | .str, _, _, _, _, _, _, _, h => h
 | .pr a b, _, _, _, _, _, B', k, h => by
  obtain ⟨c1, c2, B1, B2, e, h1, h2, h3, h4, h5⟩ := h
  simp only [Sh.plain, Bool.and_eq_true] at k
  exact ⟨c1, c2, fun _ => False, fun _ => False, e, fun _ h => h.elim, fun _ h => h.elim, fun _ h _ => h, h4.plain k.1, h5.plain k.2⟩
 | .sl e s, f, _, xs, cs, B, _, k, h => by simp [Sh.plain] at k
theorem Rep.tojunk {w : World} {Z : Nat → Prop} : ∀ {s : Sh} {f : Fl} {x : s.ty} {cs : List Value} {B B' : Nat → Prop}, Rep w Z s f x cs B → Rep w Z s .junk x cs B'
 | .unit, _, _, _, _, _, h => h
 | .int _, _, _, _, _, _, h => h
 | .bool, _, _, _, _, _, h => h
 | .str, _, _, _, _, _, h => h
 | .pr a b, _, _, _, _, B', h => by
  obtain ⟨c1, c2, B1, B2, e, h1, h2, h3, h4, h5⟩ := h
  exact ⟨c1, c2, fun _ => False, fun _ => False, e, fun _ h => h.elim, fun _ h => h.elim, fun _ h _ => h, h4.tojunk, h5.tojunk⟩
 | .sl e s, f, xs, cs, B, B', h => by
  have hl := h.len
  have ho := h.one
  match cs, hl with
  | [v], _ => exact ⟨v, rfl, ho v List.mem_cons_self⟩
/-- every slice frozen: the flags are as good as fz -/
theorem Rep.allfz {w : World} {Z : Nat → Prop} : ∀ {s : Sh} {f : Fl} {x : s.ty} {cs : List Value} {B B' : Nat → Prop}, Fl.allfz s f = true → Rep w Z s f x cs B → Rep w Z s .fz x cs B'
 | .unit, _, _, _, _, _, _, h => h
 | .int _, _, _, _, _, _, _, h => h
 | .bool, _, _, _, _, _, _, h => h
 | .str, _, _, _, _, _, _, h => h
 | .pr a b, _, _, _, _, B', k, h => by
  obtain ⟨c1, c2, B1, B2, e, h1, h2, h3, h4, h5⟩ := h
  simp only [Fl.allfz, Bool.and_eq_true] at k
  exact ⟨c1, c2, fun _ => False, fun _ => False, e, fun _ h => h.elim, fun _ h => h.elim, fun _ h _ => h, h4.allfz k.1, h5.allfz k.2⟩
 | .sl e s, f, xs, cs, B, B', k, h => by
  cases f <;> simp [Fl.allfz] at k
  ·exact h
  ·exact h.1
theorem cell_row {w : World} {g : Nat} {cur : Array Value} {e : TypeId} {fr : Nat × Nat} (h : w.heap[g]? = some (.cells cur e fr)) (j : Nat) : w.cell? ((⟨g, 0, none⟩ : Addr).add j) = cur[j]? := by
 have ha : (⟨g, 0, none⟩ : Addr).add j = ⟨g, j, none⟩ := by unfold Addr.add; split <;> simp_all
 rw [ha]
 simp [World.cell?, h]
/-- no part is moved out -/
def Fl.sound : Sh → Fl → Bool
 | .sl _ _, f => match f with
  | .fz => true
  | .own => true
  | .ownf => true
  | .io _ _ => true
  | .kz _ _ => true
  | _ => false
 | .pr a b, f => Fl.sound a f.l && Fl.sound b f.r
 | _, _ => true
theorem Fl.sound_own : ∀ s : Sh, Fl.sound s .own = true
 | .unit => rfl
 | .int _ => rfl
 | .bool => rfl
 | .str => rfl
 | .sl _ _ => rfl
 | .pr a b => by simp only [Fl.sound, Fl.l, Fl.r, Fl.sound_own a, Fl.sound_own b, Bool.and_self]
theorem Fl.sound_fz : ∀ s : Sh, Fl.sound s .fz = true
 | .unit => rfl
 | .int _ => rfl
 | .bool => rfl
 | .str => rfl
 | .sl _ _ => rfl
 | .pr a b => by simp only [Fl.sound, Fl.l, Fl.r, Fl.sound_fz a, Fl.sound_fz b, Bool.and_self]
/-- one's own, lent: frozen, in a zone that holds its blocks -/
theorem Rep.freeze {w : World} {Z Z' : Nat → Prop} (hz : ∀ b, Z b → Z' b) : ∀ {s : Sh} {f : Fl} {x : s.ty} {cs : List Value} {B B' : Nat → Prop}, Fl.sound s f = true → (∀ b, B b → Z' b) → Rep w Z s f x cs B → Rep w Z' s .fz x cs B'
 | .unit, _, _, _, _, _, _, _, h => h
 | .int _, _, _, _, _, _, _, _, h => h
 | .bool, _, _, _, _, _, _, _, h => h
 | .str, _, _, _, _, _, _, _, h => h
 | .pr a b, _, _, _, _, B', k, hb, h => by
  obtain ⟨c1, c2, B1, B2, e, h1, h2, h3, h4, h5⟩ := h
  simp only [Fl.sound, Bool.and_eq_true] at k
  exact ⟨c1, c2, fun _ => False, fun _ => False, e, fun _ h => h.elim, fun _ h => h.elim, fun _ h _ => h, h4.freeze hz k.1 (fun b q => hb b (h1 b q)), h5.freeze hz k.2 (fun b q => hb b (h2 b q))⟩
 | .sl e s, f, xs, cs, B, B', k, hb, h => by
  have aux : ∀ f' : Fl, Fl.sound s f' = true → OwnR w e s.size (fun x c B' => Rep w Z s f' x c B') s.zero xs cs B → FzR w Z' s.size (fun x c => Rep w Z' s .fz x c (fun _ => False)) s.zero xs cs := by
   intro f' hf' h
   rcases h with ⟨A, rfl, rfl⟩ | ⟨g, cap, cur, rows, Bs, rfl, h2, h3, h4, h5, h6, h7, h8⟩
   ·exact ⟨A, 0, rfl, Nat.le_refl _, Nat.zero_le _, fun h => absurd h (by simp)⟩
   ·refine ⟨_, cap, rfl, h3, Nat.le_trans h3 h4, fun _ => ⟨_, rfl, hb g h6, fun i hi => ?_⟩⟩
    obtain ⟨q1, q2, q3, q4⟩ := h7 i hi
    refine ⟨rows i, q1, fun j hj => ?_, q4.freeze hz hf' (fun b hq => hb b (q3 b hq).1)⟩
    rw [cell_row h2, q2 j hj]
  cases f with
  | fz => exact h.frame (fun b hb => hz b hb) (fun _ _ => rfl)
  | own => exact aux _ (Fl.sound_own s) h
  | ownf => exact aux _ (Fl.sound_fz s) h
  | io n c => exact aux _ (Fl.sound_own s) h.1
  | kz A c => exact Rep.frame (s := .sl e s) (f := .fz) (fun b hb => hz b hb) (fun _ _ => rfl) h.1
  | junk => simp [Fl.sound] at k
  | pr => simp [Fl.sound] at k
/-- the zero value, no slice being more than nil -/
def Sh.encZ : Sh → List Value
 | .unit => []
 | .int k => [.int k 0]
 | .bool => [.bool false]
 | .str => [.string ByteArray.empty]
 | .sl _ _ => [.slice none 0 0]
 | .pr a b => a.encZ ++ b.encZ
theorem Rep.zero (w : World) (Z : Nat → Prop) : ∀ (s : Sh) (B : Nat → Prop), Rep w Z s .own s.zero s.encZ B
 | .unit, _ => rfl
 | .int _, _ => rfl
 | .bool, _ => rfl
 | .str, _ => rfl
 | .sl _ _, _ => .inl ⟨none, rfl, rfl⟩
 | .pr a b, _ => ⟨a.encZ, b.encZ, fun _ => False, fun _ => False, rfl, fun _ h => h.elim, fun _ h => h.elim, fun _ h _ => h, Rep.zero w Z a _, Rep.zero w Z b _⟩
end Go.Proofs.YtoeblmcibheldaaGreatDoor.V
end
section
/- Places: where they lie in memory, that they hold what the reading says, and what a write there makes of the whole. No condition. -/
namespace Go.Proofs.YtoeblmcibheldaaGreatDoor.V
open Go
def rowCells (w : World) (ad : Addr) (n : Nat) : List Value := (List.range n).map fun j => (w.cell? (ad.add j)).getD undef
/-- where a place lies: its cells, and (if in memory) their address -/
def sub (w : World) : (s : Sh) → List Value → Option Addr → Path → Option (List Value × Option Addr)
 | _, cs, ad, [] => some (cs, ad)
 | .pr a b, cs, ad, .l :: p => sub w a (cs.take a.size) ad p
 | .pr a b, cs, ad, .r :: p => sub w b (cs.drop a.size) (ad.map (·.add a.size)) p
 | .sl _ s, cs, _, .el i :: p => match cs with
  | [.slice (some ad) _ _] => sub w s (rowCells w (ad.add (i * s.size)) s.size) (some (ad.add (i * s.size))) p
  | _ => none
 | _, _, _, _ => none
def Ok : (s : Sh) → Fl → s.ty → Path → Prop
 | _, _, _, [] => True
 | .pr a _b, f, x, .l :: p => Ok a f.l x.1 p
 | .pr _a b, f, x, .r :: p => Ok b f.r x.2 p
 | .sl _ s, f, xs, .el i :: p => (f = .own ∨ f = .ownf ∨ ∃ n c, f = .io n c) ∧ i < xs.length ∧ Ok s f.el (xs.getD i s.zero) p
 | _, _, _, _ => False
/-- the cells lie at the address -/
def At (w : World) (ad : Option Addr) (cs : List Value) : Prop := ∀ A, ad = some A → ∀ j, j < cs.length → w.cell? (A.add j) = cs[j]?
theorem add_add (A : Addr) (i j : Nat) : (A.add i).add j = A.add (i + j) := by
 unfold Addr.add
 by_cases h1 : i = 0 <;> by_cases h2 : j = 0 <;> simp [h1, h2, Nat.add_assoc]
theorem add_block (A : Addr) (i : Nat) : (A.add i).block = A.block := by unfold Addr.add; split <;> rfl
theorem rowCells_eq {w : World} {ad : Addr} {n : Nat} {c : List Value} (hl : c.length = n) (h : ∀ j, j < n → w.cell? (ad.add j) = c[j]?) : rowCells w ad n = c := by
 apply List.ext_getElem
 ·simp [rowCells, hl]
 ·intro i h1 h2
  simp [rowCells, h i (by omega), List.getElem?_eq_getElem h2]
/-- the new contents of a place, in the cells of the whole -/
def csub : (s : Sh) → List Value → Path → List Value → List Value
 | _, _, [], n => n
 | .pr a _, cs, .l :: p, n => csub a (cs.take a.size) p n ++ cs.drop a.size
 | .pr a b, cs, .r :: p, n => cs.take a.size ++ csub b (cs.drop a.size) p n
 | _, cs, _, _ => cs
def wrArr (c : Array Value) (off : Nat) : List Value → Array Value
 | [] => c
 | v :: vs => wrArr (c.setIfInBounds off v) (off + 1) vs
theorem wrArr_size (vs : List Value) : ∀ (c : Array Value) (off : Nat), (wrArr c off vs).size = c.size := by
 induction vs with
 | nil => intro c off; rfl
 | cons v vs ih => intro c off; simp only [wrArr]; rw [ih]; simp
theorem wrArr_out (vs : List Value) : ∀ (c : Array Value) (off k : Nat), (k < off ∨ off + vs.length ≤ k) → (wrArr c off vs)[k]? = c[k]? := by
 induction vs with
 | nil => intro c off k _; rfl
 | cons v vs ih =>
  intro c off k h
  simp only [wrArr, List.length_cons] at h ⊢
  rw [ih _ _ _ (by omega), Array.getElem?_setIfInBounds_ne (by omega)]
theorem wrArr_in (vs : List Value) : ∀ (c : Array Value) (off k : Nat), off + vs.length ≤ c.size → k < vs.length → (wrArr c off vs)[off + k]? = vs[k]? := by
 induction vs with
 | nil => intro c off k _ h; simp at h
 | cons v vs ih =>
  intro c off k h1 h2
  simp only [List.length_cons] at h1 h2
  simp only [wrArr]
  cases k with
  | zero => rw [Nat.add_zero, wrArr_out _ _ _ _ (.inl (by omega))]; simp [Array.getElem?_setIfInBounds]; omega
  | succ k =>
   rw [show off + (k + 1) = off + 1 + k from by omega, ih _ _ _ (by simp; omega) (by omega)]
   simp
/-- w' is w, but for the cells from A on, which are now n -/
structure Wr (w w' : World) (A : Addr) (n : List Value) : Prop where
 other : ∀ b, b ≠ A.block → w'.heap[b]? = w.heap[b]?
 here : ∀ cur e fr, w.heap[A.block]? = some (.cells cur e fr) → w'.heap[A.block]? = some (.cells (wrArr cur A.off n) e fr)
/-- either nothing is written, or the place's cells are -/
def Chg (w w' : World) (ad : Option Addr) (cs n : List Value) : Prop := (w' = w ∧ n = cs) ∨ ∃ A, ad = some A ∧ A.spot = none ∧ n.length = cs.length ∧ Wr w w' A n
theorem Chg.other {w w' : World} {ad : Option Addr} {cs n : List Value} (h : Chg w w' ad cs n) (b : Nat) (hb : ∀ A, ad = some A → b ≠ A.block) : w'.heap[b]? = w.heap[b]? := by
 rcases h with ⟨rfl, _⟩ | ⟨A, h1, _, _, h2⟩
 ·rfl
 ·exact h2.other b (hb A h1)
theorem cell_at {w : World} {A : Addr} {cur : Array Value} {e : TypeId} {fr : Nat × Nat} (hs : A.spot = none) (h : w.heap[A.block]? = some (.cells cur e fr)) (j : Nat) : w.cell? (A.add j) = cur[A.off + j]? := by
 unfold World.cell?
 rw [add_block, h]
 unfold Addr.add
 by_cases hj : j = 0
 ·simp [hj, hs]
 ·simp [hj]
theorem cell_some {w : World} {A : Addr} {v : Value} (h : w.cell? A = some v) : A.spot = none ∧ ∃ cur e fr, w.heap[A.block]? = some (.cells cur e fr) := by
 unfold World.cell? at h
 split at h
 ·rename_i c e fr hc
  split at h
  ·cases h
  ·rename_i hs
   exact ⟨by simpa using hs, _, _, _, hc⟩
 ·cases h
theorem add_off {A : Addr} (h : A.spot = none) (n : Nat) : (A.add n).off = A.off + n ∧ (A.add n).spot = none := by
 unfold Addr.add
 by_cases hn : n = 0
 ·simp [hn, h]
 ·simp [hn]
theorem csub_nil (s : Sh) (cs n : List Value) : csub s cs [] n = n := by cases s <;> rfl
theorem sub_nil (w : World) (s : Sh) (cs : List Value) (ad : Option Addr) : sub w s cs ad [] = some (cs, ad) := by cases s <;> rfl
/-- where a place lies, seen from the whole -/
def Pos (ad : Option Addr) (m : Nat) (ad1 : Option Addr) (m1 : Nat) (B : Nat → Prop) : Prop := (∃ off, ad1 = ad.map (·.add off) ∧ off + m1 ≤ m) ∨ (ad1 ≠ none ∧ ∀ A, ad1 = some A → B A.block)
theorem Pos.block {ad : Option Addr} {m : Nat} {ad1 : Option Addr} {m1 : Nat} {B : Nat → Prop} (h : Pos ad m ad1 m1 B) (A : Addr) (hA : ad1 = some A) : (∃ A0, ad = some A0 ∧ A0.block = A.block) ∨ B A.block := by
 rcases h with ⟨off, h1, _⟩ | ⟨_, h2⟩
 ·rw [hA] at h1
  obtain ⟨A0, h3, h4⟩ := Option.map_eq_some_iff.1 h1.symm
  exact .inl ⟨A0, h3, by rw [← h4, add_block]⟩
 ·exact .inr (h2 A hA)
/-- a cell of the whole that is none of the place's -/
theorem Chg.cell {w w' : World} {ad ad1 : Option Addr} {m m1 : Nat} {B : Nat → Prop} {cs1 n : List Value} (hC : Chg w w' ad1 cs1 n) (hP : Pos ad m ad1 m1 B) (hm : cs1.length = m1) (hN : ∀ A, ad = some A → ¬ B A.block)
  {A : Addr} (hA : ad = some A) {j : Nat} {v : Value} (hc : w.cell? (A.add j) = some v) (hsp : A.spot = none) (hout : ∀ off, ad1 = ad.map (·.add off) → off + m1 ≤ m → j < off ∨ off + m1 ≤ j) : w'.cell? (A.add j) = some v := by
 rcases hC with ⟨rfl, _⟩ | ⟨A', h1, h2, h3, h4⟩
 ·exact hc
 ·obtain ⟨_, cur, e, fr, hcu⟩ := cell_some hc
  rw [add_block] at hcu
  by_cases hb : A.block = A'.block
  ·rcases hP with ⟨off, p1, p2⟩ | ⟨_, p2⟩
   ·have h5 := hout off p1 p2
    rw [hA, h1] at p1
    have h6 : A' = A.add off := by simpa using p1
    have h7 := (add_off hsp off).1
    rw [cell_at hsp hcu] at hc
    rw [cell_at hsp (show w'.heap[A.block]? = some (.cells (wrArr cur A'.off n) e fr) from by rw [hb]; exact h4.here _ _ _ (hb ▸ hcu)), wrArr_out n cur _ _ (by rw [h6, h7]; omega)]
    exact hc
   ·exact absurd (hb ▸ p2 A' h1) (hN A hA)
  ·exact (World.cell?_of_block (w := w) (by rw [add_block]; exact h4.other _ hb)).trans hc
theorem At.spot {w : World} {A : Addr} {cs : List Value} (h : At w (some A) cs) (hl : 0 < cs.length) : A.spot = none := by
 have := h A rfl 0 hl
 rw [List.getElem?_eq_getElem hl] at this
 have h7 := (cell_some this).1
 unfold Addr.add at h7; simpa using h7
def Lens (w : World) (Z : Nat → Prop) (s : Sh) (f : Fl) (x : s.ty) (cs : List Value) (ad : Option Addr) (B : Nat → Prop) (p : Path) (s1 : Sh) (f1 : Fl) (x1 : s1.ty) (cs1 : List Value) (ad1 : Option Addr) (B1 : Nat → Prop) : Prop :=
 At w ad1 cs1 ∧ Pos ad cs.length ad1 cs1.length B ∧ (∀ b, B1 b → B b) ∧ (∀ A, ad1 = some A → ¬ B1 A.block) ∧ Rep w Z s1 f1 x1 cs1 B1 ∧
   ∀ (w' : World) (n : List Value) (f2 : Fl) (x2 : s1.ty) (B2 : Nat → Prop) (f' : Fl) (x' : s.ty), Chg w w' ad1 cs1 n → (∀ A, ad1 = some A → w' ≠ w → ¬ Z A.block) →
    (∀ b, B2 b → ¬ (B b ∧ ¬ B1 b)) → (∀ A, ad = some A → ¬ B2 A.block) → (∀ A, ad1 = some A → ¬ B2 A.block) → Rep w' Z s1 f2 x2 n B2 → upd s1 f2 x2 s f x p = some (f', x') →
    Rep w' Z s f' x' (csub s cs p n) (fun b => (B b ∧ ¬ B1 b) ∨ B2 b) ∧ At w' ad (csub s cs p n)
theorem lens_l {w : World} {Z : Nat → Prop} {a b : Sh} {f : Fl} {x : (Sh.pr a b).ty} {cs : List Value} {ad : Option Addr} {B : Nat → Prop} {p : Path}
  (ih : ∀ {f : Fl} {x : a.ty} {cs : List Value} {ad : Option Addr} {B : Nat → Prop}, Rep w Z a f x cs B → At w ad cs → (∀ A, ad = some A → ¬ B A.block) → Ok a f x p → ∀ {s1 : Sh} {f1 : Fl} {x1 : s1.ty}, get a f x p = some ⟨s1, f1, x1⟩ → ∃ cs1 ad1 B1, sub w a cs ad p = some (cs1, ad1) ∧ Lens w Z a f x cs ad B p s1 f1 x1 cs1 ad1 B1)
  (hR : Rep w Z (.pr a b) f x cs B) (hA : At w ad cs) (hN : ∀ A, ad = some A → ¬ B A.block) (hOk : Ok (.pr a b) f x (.l :: p)) {s1 : Sh} {f1 : Fl} {x1 : s1.ty} (hg : get (.pr a b) f x (.l :: p) = some ⟨s1, f1, x1⟩) :
  ∃ cs1 ad1 B1, sub w (.pr a b) cs ad (.l :: p) = some (cs1, ad1) ∧ Lens w Z (.pr a b) f x cs ad B (.l :: p) s1 f1 x1 cs1 ad1 B1 := by
 obtain ⟨c1, c2, B1, B2, rfl, k1, k2, k3, k4, k5⟩ := hR
 have hl := k4.len
 have hA1 : At w ad c1 := fun A h j hj => by
  have := hA A h j (by rw [List.length_append]; omega)
  rwa [List.getElem?_append_left hj] at this
 obtain ⟨cs1, ad1, Bp, g1, g2, g3, g6, g7, g8, g9⟩ := ih k4 hA1 (fun A h hb => hN A h (k1 _ hb)) hOk hg
 refine ⟨cs1, ad1, Bp, ?_, g2, ?_, fun b hb => k1 b (g6 b hb), g7, g8, ?_⟩
 ·simp only [sub]
  rw [List.take_left' hl]
  exact g1
 ·rcases g3 with ⟨off, h1, h2⟩ | ⟨h1, h2⟩
  ·exact .inl ⟨off, h1, by rw [List.length_append]; omega⟩
  ·exact .inr ⟨h1, fun A h => k1 _ (h2 A h)⟩
 ·intro w' n f2 x2 Bn f' x' hC hZ hBn hNn hNn1 hRn hu
  simp only [upd] at hu
  cases hq : upd s1 f2 x2 a f.l x.1 p with
  | none => rw [hq] at hu; cases hu
  | some q =>
   rw [hq] at hu
   simp only [Option.some.injEq, Prod.mk.injEq] at hu
   obtain ⟨rfl, rfl⟩ := hu
   obtain ⟨r1, r2⟩ := g9 w' n f2 x2 Bn q.1 q.2 hC hZ (fun b hb h => hBn b hb ⟨k1 b h.1, h.2⟩) hNn hNn1 hRn hq
   have hfr : ∀ b, Z b ∨ B2 b → w'.heap[b]? = w.heap[b]? := by
    intro b hb
    by_cases hw : w' = w
    ·rw [hw]
    refine hC.other b (fun A hA' hEq => ?_)
    subst hEq
    rcases hb with hb | hb
    ·exact hZ A hA' hw hb
    ·rcases g3.block A hA' with ⟨A0, h1, h2⟩ | h
     ·exact hN A0 h1 (h2 ▸ k2 _ hb)
     ·exact k3 _ h hb
   have hcl : csub (.pr a b) (c1 ++ c2) (.l :: p) n = csub a c1 p n ++ c2 := by simp only [csub]; rw [List.take_left' hl, List.drop_left' hl]
   rw [hcl]
   refine ⟨⟨csub a c1 p n, c2, fun b => (B1 b ∧ ¬ Bp b) ∨ Bn b, B2, rfl, fun b hb => ?_, fun b hb => .inl ⟨k2 b hb, fun h => k3 b (g6 b h) hb⟩, fun b hb hb2 => ?_, r1, k5.frame (fun _ h => h) hfr⟩, ?_⟩
   ·rcases hb with hb | hb
    ·exact .inl ⟨k1 b hb.1, hb.2⟩
    ·exact .inr hb
   ·rcases hb with hb | hb
    ·exact k3 b hb.1 hb2
    ·exact hBn b hb ⟨k2 b hb2, fun h => k3 b (g6 b h) hb2⟩
   ·intro A hAd j hj
    have hlen := r1.len
    rw [List.length_append] at hj
    by_cases hj1 : j < a.size
    ·rw [List.getElem?_append_left (by omega)]
     exact r2 A hAd j (by omega)
    ·rw [List.getElem?_append_right (by omega)]
     have h5 := hA A hAd j (by rw [List.length_append]; omega)
     rw [List.getElem?_append_right (by omega)] at h5
     rw [show j - (csub a c1 p n).length = j - c1.length from by omega, List.getElem?_eq_getElem (by omega)]
     rw [List.getElem?_eq_getElem (by omega)] at h5
     have hsp : A.spot = none := At.spot (hAd ▸ hA) (by rw [List.length_append]; omega)
     exact hC.cell g3 rfl (fun A h hb => hN A h (k1 _ hb)) hAd h5 hsp (fun off _ h2 => .inr (by omega))
theorem lens_r {w : World} {Z : Nat → Prop} {a b : Sh} {f : Fl} {x : (Sh.pr a b).ty} {cs : List Value} {ad : Option Addr} {B : Nat → Prop} {p : Path}
  (ih : ∀ {f : Fl} {x : b.ty} {cs : List Value} {ad : Option Addr} {B : Nat → Prop}, Rep w Z b f x cs B → At w ad cs → (∀ A, ad = some A → ¬ B A.block) → Ok b f x p → ∀ {s1 : Sh} {f1 : Fl} {x1 : s1.ty}, get b f x p = some ⟨s1, f1, x1⟩ → ∃ cs1 ad1 B1, sub w b cs ad p = some (cs1, ad1) ∧ Lens w Z b f x cs ad B p s1 f1 x1 cs1 ad1 B1)
  (hR : Rep w Z (.pr a b) f x cs B) (hA : At w ad cs) (hN : ∀ A, ad = some A → ¬ B A.block) (hOk : Ok (.pr a b) f x (.r :: p)) {s1 : Sh} {f1 : Fl} {x1 : s1.ty} (hg : get (.pr a b) f x (.r :: p) = some ⟨s1, f1, x1⟩) :
  ∃ cs1 ad1 B1, sub w (.pr a b) cs ad (.r :: p) = some (cs1, ad1) ∧ Lens w Z (.pr a b) f x cs ad B (.r :: p) s1 f1 x1 cs1 ad1 B1 := by
 obtain ⟨c1, c2, B1, B2, rfl, k1, k2, k3, k4, k5⟩ := hR
 have hl := k4.len
 have hl2 := k5.len
 have hA2 : At w (ad.map (·.add a.size)) c2 := fun A h j hj => by
  obtain ⟨A0, rfl, rfl⟩ := Option.map_eq_some_iff.1 h
  have := hA A0 rfl (c1.length + j) (by rw [List.length_append]; omega)
  rw [List.getElem?_append_right (by omega)] at this
  rw [add_add, ← hl, this]
  congr 1
  omega
 have hN2 : ∀ (C : Nat → Prop), (∀ A, ad = some A → ¬ C A.block) → ∀ A, ad.map (·.add a.size) = some A → ¬ C A.block := by
  intro C hC A h hb
  obtain ⟨A0, h1, h2⟩ := Option.map_eq_some_iff.1 h
  rw [← h2, add_block] at hb
  exact hC A0 h1 hb
 obtain ⟨cs1, ad1, Bp, g1, g2, g3, g6, g7, g8, g9⟩ := ih k5 hA2 (hN2 _ (fun A h hb => hN A h (k2 _ hb))) hOk hg
 have g3' : Pos ad (c1 ++ c2).length ad1 cs1.length B2 := by
  rcases g3 with ⟨off, h1, h2⟩ | ⟨h1, h2⟩
  ·refine .inl ⟨a.size + off, ?_, by rw [List.length_append]; omega⟩
   rw [h1]
   cases ad with
   | none => rfl
   | some A => simp [add_add]
  ·exact .inr ⟨h1, h2⟩
 refine ⟨cs1, ad1, Bp, ?_, g2, ?_, fun b hb => k2 b (g6 b hb), g7, g8, ?_⟩
 ·simp only [sub]
  rw [List.drop_left' hl]
  exact g1
 ·rcases g3' with h | ⟨h1, h2⟩
  ·exact .inl h
  ·exact .inr ⟨h1, fun A h => k2 _ (h2 A h)⟩
 ·intro w' n f2 x2 Bn f' x' hC hZ hBn hNn hNn1 hRn hu
  simp only [upd] at hu
  cases hq : upd s1 f2 x2 b f.r x.2 p with
  | none => rw [hq] at hu; cases hu
  | some q =>
   rw [hq] at hu
   simp only [Option.some.injEq, Prod.mk.injEq] at hu
   obtain ⟨rfl, rfl⟩ := hu
   obtain ⟨r1, r2⟩ := g9 w' n f2 x2 Bn q.1 q.2 hC hZ (fun b hb h => hBn b hb ⟨k2 b h.1, h.2⟩) (hN2 _ hNn) hNn1 hRn hq
   have hfr : ∀ b, Z b ∨ B1 b → w'.heap[b]? = w.heap[b]? := by
    intro b hb
    by_cases hw : w' = w
    ·rw [hw]
    refine hC.other b (fun A hA' hEq => ?_)
    subst hEq
    rcases hb with hb | hb
    ·exact hZ A hA' hw hb
    ·rcases g3'.block A hA' with ⟨A0, h1, h2⟩ | h
     ·exact hN A0 h1 (h2 ▸ k1 _ hb)
     ·exact k3 _ hb h
   have hcl : csub (.pr a b) (c1 ++ c2) (.r :: p) n = c1 ++ csub b c2 p n := by simp only [csub]; rw [List.take_left' hl, List.drop_left' hl]
   rw [hcl]
   refine ⟨⟨c1, csub b c2 p n, B1, fun b => (B2 b ∧ ¬ Bp b) ∨ Bn b, rfl, fun b hb => .inl ⟨k1 b hb, fun h => k3 b hb (g6 b h)⟩, fun b hb => ?_, fun b hb1 hb => ?_, k4.frame (fun _ h => h) hfr, r1⟩, ?_⟩
   ·rcases hb with hb | hb
    ·exact .inl ⟨k2 b hb.1, hb.2⟩
    ·exact .inr hb
   ·rcases hb with hb | hb
    ·exact k3 b hb1 hb.1
    ·exact hBn b hb ⟨k1 b hb1, fun h => k3 b hb1 (g6 b h)⟩
   ·intro A hAd j hj
    have hlen := r1.len
    rw [List.length_append] at hj
    by_cases hj1 : j < a.size
    ·rw [List.getElem?_append_left (by omega)]
     have h5 := hA A hAd j (by rw [List.length_append]; omega)
     rw [List.getElem?_append_left (by omega), List.getElem?_eq_getElem (by omega)] at h5
     rw [List.getElem?_eq_getElem (by omega)]
     have hsp : A.spot = none := At.spot (hAd ▸ hA) (by rw [List.length_append]; omega)
     refine hC.cell g3' rfl (fun A h hb => hN A h (k2 _ hb)) hAd h5 hsp (fun off q1 q2 => .inl ?_)
     rcases g3 with ⟨off0, p1, p2⟩ | ⟨p1, p2⟩
     ·rw [hAd] at p1 q1
      rw [p1] at q1
      have e : (A.add a.size).add off0 = A.add off := by simpa using q1
      have e1 := (add_off (add_off hsp a.size).2 off0).1
      rw [e, (add_off hsp a.size).1, (add_off hsp off).1] at e1
      omega
     ·rw [hAd] at q1
      exact absurd (add_block A off ▸ p2 _ q1) (fun h => hN A hAd (k2 _ h))
    ·have e : a.size + (j - c1.length) = j := by omega
     rw [List.getElem?_append_right (by omega), ← r2 (A.add a.size) (by rw [hAd]; rfl) (j - c1.length) (by omega), add_add, e]
theorem wr_spec {f : Fl} (h : f.wr = true) : f = .own ∨ f = .ownf ∨ ∃ n c, f = .io n c := by
 cases f <;> simp_all [Fl.wr]
/-- the element of a row of the call's own: what a write inside it makes of the row -/
theorem lens_row {w : World} {Z : Nat → Prop} {e : TypeId} {s : Sh} {f0 : Fl} {xs : List s.ty} {cs : List Value} {ad : Option Addr} {B : Nat → Prop} {i : Nat} {p : Path} (hi : i < xs.length)
  (ih : ∀ {f : Fl} {x : s.ty} {cs : List Value} {ad : Option Addr} {B : Nat → Prop}, Rep w Z s f x cs B → At w ad cs → (∀ A, ad = some A → ¬ B A.block) → Ok s f x p → ∀ {s1 : Sh} {f1 : Fl} {x1 : s1.ty}, get s f x p = some ⟨s1, f1, x1⟩ → ∃ cs1 ad1 B1, sub w s cs ad p = some (cs1, ad1) ∧ Lens w Z s f x cs ad B p s1 f1 x1 cs1 ad1 B1)
  (hR : OwnR w e s.size (fun x c B' => Rep w Z s f0 x c B') s.zero xs cs B) (hA : At w ad cs) (hN : ∀ A, ad = some A → ¬ B A.block) (hOk : Ok s f0 (xs.getD i s.zero) p) {s1 : Sh} {f1 : Fl} {x1 : s1.ty} (hg : get s f0 (xs.getD i s.zero) p = some ⟨s1, f1, x1⟩) :
  ∃ cs1 ad1 B1, sub w (.sl e s) cs ad (.el i :: p) = some (cs1, ad1) ∧ At w ad1 cs1 ∧ (ad1 ≠ none ∧ ∀ A, ad1 = some A → B A.block) ∧ (∀ b, B1 b → B b) ∧ (∀ A, ad1 = some A → ¬ B1 A.block) ∧ Rep w Z s1 f1 x1 cs1 B1 ∧
   ∀ (w' : World) (n : List Value) (f2 : Fl) (x2 : s1.ty) (B2 : Nat → Prop) (f' : Fl) (x' : s.ty), Chg w w' ad1 cs1 n → (∀ A, ad1 = some A → w' ≠ w → ¬ Z A.block) →
    (∀ b, B2 b → ¬ (B b ∧ ¬ B1 b)) → (∀ A, ad = some A → ¬ B2 A.block) → (∀ A, ad1 = some A → ¬ B2 A.block) → Rep w' Z s1 f2 x2 n B2 → upd s1 f2 x2 s f0 (xs.getD i s.zero) p = some (f', x') → (s.plain = true ∨ f' = f0) →
    OwnR w' e s.size (fun x c B' => Rep w' Z s f0 x c B') s.zero (xs.set i x') cs (fun b => (B b ∧ ¬ B1 b) ∨ B2 b) ∧ At w' ad cs := by
 rcases hR with ⟨A, rfl, rfl⟩ | ⟨g, cap, cur, rows, Bs, rfl, h2, h3, h4, h5, h6, h7, h8⟩
 ·simp at hi
 obtain ⟨q1, q2, q3, q4⟩ := h7 i hi
 have hAr : At w (some ((⟨g, 0, none⟩ : Addr).add (i * s.size))) (rows i) := by
  intro A hA' j hj
  obtain rfl := Option.some.inj hA'
  rw [add_add, cell_row h2, q2 j (by omega)]
 have hgb : ∀ A, some ((⟨g, 0, none⟩ : Addr).add (i * s.size)) = some A → A.block = g := fun A hA' => by
  obtain rfl := Option.some.inj hA'
  rw [add_block]
 obtain ⟨cs1, ad1, B1, g1, g2, g3, g6, g7, g8, g9⟩ := ih q4 hAr (fun A hA' hb => (q3 _ hb).2 (hgb A hA')) hOk hg
 have hpos : ad1 ≠ none ∧ ∀ A, ad1 = some A → (A.block = g ∨ Bs i A.block) := by
  refine ⟨?_, fun A hA' => ?_⟩
  ·rcases g3 with ⟨off, h, _⟩ | ⟨h, _⟩
   ·rw [h]; simp
   ·exact h
  ·rcases g3.block A hA' with ⟨A0, e1, e2⟩ | h
   ·exact .inl (e2 ▸ hgb A0 e1)
   ·exact .inr h
 refine ⟨cs1, ad1, B1, ?_, g2, ⟨hpos.1, fun A hA' => ?_⟩, fun b hb => (q3 b (g6 b hb)).1, g7, g8, ?_⟩
 ·simp only [sub]
  rw [rowCells_eq q1 (fun j hj => by rw [add_add, cell_row h2, q2 j hj])]
  exact g1
 ·rcases hpos.2 A hA' with h | h
  ·rw [h]; exact h6
  ·exact (q3 _ h).1
 intro w' n f2 x2 B2 f' x' hC hZ hB2 hN2 hN21 hR2 hu hfl
 have hB2g : ¬ B2 g := fun h => hB2 g h ⟨h6, fun h' => (q3 _ (g6 _ h')).2 rfl⟩
 obtain ⟨r1, r2⟩ := g9 w' n f2 x2 B2 f' x' hC hZ (fun b hb h => hB2 b hb ⟨(q3 b h.1).1, h.2⟩) (fun A hA' hb => hB2g (hgb A hA' ▸ hb)) hN21 hR2 hu
 have hlen := r1.len
 -- the row's block behind the write
 obtain ⟨cur', c1, c2, c3⟩ : ∃ cur', w'.heap[g]? = some (.cells cur' e (0, 0)) ∧ cur'.size = cur.size ∧ ∀ j k, j < xs.length → j ≠ i → k < s.size → cur'[j * s.size + k]? = cur[j * s.size + k]? := by
  rcases hC with ⟨rfl, _⟩ | ⟨A, e1, e2, e3, e4⟩
  ·exact ⟨cur, h2, rfl, fun _ _ _ _ _ => rfl⟩
  ·by_cases hb : A.block = g
   ·subst hb
    refine ⟨_, e4.here _ _ _ h2, wrArr_size _ _ _, fun j k hj hne hk => ?_⟩
    rcases g3 with ⟨off, p1, p2⟩ | ⟨_, p2⟩
    ·rw [e1] at p1
     have e5 : A = ((⟨A.block, 0, none⟩ : Addr).add (i * s.size)).add off := by simpa using p1
     have e6 : A.off = i * s.size + off := by
      have := (add_off (add_off (A := ⟨A.block, 0, none⟩) rfl (i * s.size)).2 off).1
      rw [← e5, (add_off (A := ⟨A.block, 0, none⟩) rfl (i * s.size)).1] at this
      simpa using this
     refine wrArr_out _ _ _ _ ?_
     rw [e6]
     have hbd : j * s.size + k < i * s.size + off ∨ i * s.size + off + n.length ≤ j * s.size + k := by
      rcases Nat.lt_or_gt_of_ne hne with h | h
      ·have := Nat.mul_le_mul_right s.size (show j + 1 ≤ i from h)
       rw [Nat.add_mul, Nat.one_mul] at this
       omega
      ·have := Nat.mul_le_mul_right s.size (show i + 1 ≤ j from h)
       rw [Nat.add_mul, Nat.one_mul] at this
       omega
     exact hbd
    ·exact absurd (p2 A e1) (fun h => (q3 _ h).2 rfl)
   ·exact ⟨cur, (e4.other g (fun h => hb h.symm)).trans h2, rfl, fun _ _ _ _ _ => rfl⟩
 refine ⟨.inr ⟨g, cap, cur', fun j => if j = i then csub s (rows i) p n else rows j, fun j b => if j = i then (Bs i b ∧ ¬ B1 b) ∨ B2 b else Bs j b, by rw [List.length_set], c1, by rw [List.length_set]; exact h3, h4, by rw [c2]; exact h5, .inl ⟨h6, fun h => (q3 _ (g6 _ h)).2 rfl⟩, ?_, ?_⟩, ?_⟩
 ·intro j hj
  rw [List.length_set] at hj
  by_cases hji : j = i
  ·subst hji
   simp only [if_true]
   refine ⟨hlen, fun k hk => ?_, fun b hb => ?_, ?_⟩
   ·have := r2 _ rfl k (by omega)
    rw [add_add, cell_row c1] at this
    exact this
   ·rcases hb with hb | hb
    ·exact ⟨.inl ⟨(q3 b hb.1).1, hb.2⟩, (q3 b hb.1).2⟩
    ·exact ⟨.inr hb, fun h => hB2g (h ▸ hb)⟩
   ·have e1 : (xs.set j x').getD j s.zero = x' := by simp [List.getD_eq_getElem?_getD, hj]
    rw [e1]
    rcases hfl with h | h
    ·exact r1.plain h
    ·rw [← h]; exact r1
  ·simp only [if_neg hji]
   obtain ⟨t1, t2, t3, t4⟩ := h7 j hj
   refine ⟨t1, fun k hk => ?_, fun b hb => ⟨.inl ⟨(t3 b hb).1, fun h => h8 j i b hj hi hji hb (g6 b h)⟩, (t3 b hb).2⟩, ?_⟩
   ·rw [c3 j k hj hji hk]; exact t2 k hk
   ·have e1 : (xs.set i x').getD j s.zero = xs.getD j s.zero := by
     rw [List.getD_eq_getElem?_getD, List.getD_eq_getElem?_getD, List.getElem?_set_ne (fun h => hji h.symm)]
    rw [e1]
    refine t4.frame (fun _ h => h) (fun b hb => ?_)
    by_cases hw : w' = w
    ·rw [hw]
    refine hC.other b (fun A hA' hEq => ?_)
    subst hEq
    rcases hb with hb | hb
    ·exact hZ A hA' hw hb
    ·rcases hpos.2 A hA' with h | h
     ·exact (t3 _ hb).2 h
     ·exact h8 j i _ hj hi hji hb h
 ·intro j k b hj hk hjk hb1 hb2
  rw [List.length_set] at hj hk
  by_cases hji : j = i
  ·subst hji
   rw [if_pos rfl] at hb1
   rw [if_neg (fun h => hjk h.symm)] at hb2
   rcases hb1 with h | h
   ·exact h8 j k b hj hk hjk h.1 hb2
   ·exact hB2 b h ⟨((h7 k hk).2.2.1 b hb2).1, fun h' => h8 j k b hj hk hjk (g6 b h') hb2⟩
  ·rw [if_neg hji] at hb1
   by_cases hki : k = i
   ·subst hki
    rw [if_pos rfl] at hb2
    rcases hb2 with h | h
    ·exact h8 j k b hj hk hjk hb1 h.1
    ·exact hB2 b h ⟨((h7 j hj).2.2.1 b hb1).1, fun h' => h8 j k b hj hk hjk hb1 (g6 b h')⟩
   ·rw [if_neg hki] at hb2
    exact h8 j k b hj hk hjk hb1 hb2
 ·intro A hAd j hj
  rw [← hA A hAd j hj]
  by_cases hw : w' = w
  ·rw [hw]
  refine World.cell?_of_block ?_
  rw [add_block]
  refine hC.other _ (fun A' hA' hEq => ?_)
  refine hN A hAd (hEq ▸ ?_)
  rcases hpos.2 A' hA' with h | h
  ·rw [h]; exact h6
  ·exact (q3 _ h).1
theorem lens {w : World} {Z : Nat → Prop} : ∀ (p : Path) {s : Sh} {f : Fl} {x : s.ty} {cs : List Value} {ad : Option Addr} {B : Nat → Prop}, Rep w Z s f x cs B → At w ad cs → (∀ A, ad = some A → ¬ B A.block) → Ok s f x p →
  ∀ {s1 : Sh} {f1 : Fl} {x1 : s1.ty}, get s f x p = some ⟨s1, f1, x1⟩ → ∃ cs1 ad1 B1, sub w s cs ad p = some (cs1, ad1) ∧ Lens w Z s f x cs ad B p s1 f1 x1 cs1 ad1 B1 := by
 intro p
 induction p with
 | nil =>
  intro s f x cs ad B hR hA hN _ s1 f1 x1 hg
  have hg' : (⟨s, f, x⟩ : (s : Sh) × Fl × s.ty) = ⟨s1, f1, x1⟩ := by
   have : get s f x [] = some ⟨s, f, x⟩ := by cases s <;> rfl
   rw [this] at hg
   exact Option.some.inj hg
  simp only [Sigma.mk.injEq] at hg'
  obtain ⟨rfl, hg'⟩ := hg'
  obtain ⟨rfl, rfl⟩ := Prod.mk.inj (eq_of_heq hg')
  refine ⟨cs, ad, B, sub_nil _ _ _ _, hA, .inl ⟨0, by cases ad <;> simp [Addr.add], by omega⟩, fun _ h => h, hN, hR, ?_⟩
  intro w' n f2 x2 B2 f' x' hC hZ hB2 hN2 hN21 hR2 hu
  have hu' : upd s f2 x2 s f x [] = some (f2, x2) := by
   have : upd s f2 x2 s f x [] = if h : s = s then some (f2, h ▸ x2) else none := by cases s <;> rfl
   rw [this]; simp
  rw [hu'] at hu
  obtain ⟨rfl, rfl⟩ := Prod.mk.inj (Option.some.inj hu)
  rw [csub_nil]
  refine ⟨hR2.mono (fun b hb => .inr hb), ?_⟩
  intro A hAd j hj
  rcases hC with ⟨rfl, rfl⟩ | ⟨A', h1, h2, h3, h4⟩
  ·exact hA A hAd j hj
  ·rw [hAd] at h1
   obtain rfl := Option.some.inj h1
   have h5 := hA A hAd j (by omega)
   rw [List.getElem?_eq_getElem (by omega)] at h5
   obtain ⟨_, cur, e, fr, hc⟩ := cell_some h5
   rw [add_block] at hc
   rw [cell_at h2 (h4.here _ _ _ hc) j]
   refine wrArr_in n cur A.off j ?_ hj
   have h6 := hA A hAd (cs.length - 1) (by omega)
   rw [cell_at h2 hc, List.getElem?_eq_getElem (by omega)] at h6
   have := (Array.getElem?_eq_some_iff.1 h6).1
   omega
 | cons st p ih =>
  intro s f x cs ad B hR hA hN hOk s1 f1 x1 hg
  cases s with
  | pr a b =>
   cases st with
   | l => exact lens_l (fun {_ _ _ _ _} a1 a2 a3 a4 {_ _ _} a5 => ih a1 a2 a3 a4 a5) hR hA hN hOk hg
   | r => exact lens_r (fun {_ _ _ _ _} a1 a2 a3 a4 {_ _ _} a5 => ih a1 a2 a3 a4 a5) hR hA hN hOk hg
   | el i => simp [Ok] at hOk
  | sl e s0 =>
   cases st with
   | el i =>
    obtain ⟨hf, hi, hOk'⟩ := hOk
    rcases hf with rfl | rfl | ⟨n0, c0, rfl⟩
    ·obtain ⟨cs1, ad1, B1, g1, g2, g3, g4, g5, g6, g7⟩ := lens_row hi (fun {_ _ _ _ _} a1 a2 a3 a4 {_ _ _} a5 => ih a1 a2 a3 a4 a5) hR hA hN hOk' hg
     refine ⟨cs1, ad1, B1, g1, g2, .inr g3, g4, g5, g6, ?_⟩
     intro w' n f2 x2 B2 f' x' hC hZ hB2 hN2 hN21 hR2 hu
     simp only [upd] at hu
     cases hq : upd s1 f2 x2 s0 .own (x.getD i s0.zero) p with
     | none => rw [hq] at hu; cases hu
     | some q =>
      rw [hq] at hu
      simp only at hu
      split at hu
      ·rename_i hfl
       obtain ⟨rfl, rfl⟩ := Prod.mk.inj (Option.some.inj hu)
       simp only [Bool.or_eq_true, beq_iff_eq] at hfl
       exact g7 w' n f2 x2 B2 q.1 q.2 hC hZ hB2 hN2 hN21 hR2 hq hfl
      ·cases hu
    ·obtain ⟨cs1, ad1, B1, g1, g2, g3, g4, g5, g6, g7⟩ := lens_row hi (fun {_ _ _ _ _} a1 a2 a3 a4 {_ _ _} a5 => ih a1 a2 a3 a4 a5) hR hA hN hOk' hg
     refine ⟨cs1, ad1, B1, g1, g2, .inr g3, g4, g5, g6, ?_⟩
     intro w' n f2 x2 B2 f' x' hC hZ hB2 hN2 hN21 hR2 hu
     simp only [upd] at hu
     cases hq : upd s1 f2 x2 s0 .fz (x.getD i s0.zero) p with
     | none => rw [hq] at hu; cases hu
     | some q =>
      rw [hq] at hu
      simp only at hu
      split at hu
      ·rename_i hfl
       obtain ⟨rfl, rfl⟩ := Prod.mk.inj (Option.some.inj hu)
       simp only [Bool.or_eq_true, beq_iff_eq] at hfl
       exact g7 w' n f2 x2 B2 q.1 q.2 hC hZ hB2 hN2 hN21 hR2 hq hfl
      ·cases hu
    ·obtain ⟨cs1, ad1, B1, g1, g2, g3, g4, g5, g6, g7⟩ := lens_row hi (fun {_ _ _ _ _} a1 a2 a3 a4 {_ _ _} a5 => ih a1 a2 a3 a4 a5) hR.1 hA hN hOk' hg
     refine ⟨cs1, ad1, B1, g1, g2, .inr g3, g4, g5, g6, ?_⟩
     intro w' n f2 x2 B2 f' x' hC hZ hB2 hN2 hN21 hR2 hu
     simp only [upd] at hu
     cases hq : upd s1 f2 x2 s0 .own (x.getD i s0.zero) p with
     | none => rw [hq] at hu; cases hu
     | some q =>
      rw [hq] at hu
      simp only at hu
      split at hu
      ·rename_i hfl
       obtain ⟨rfl, rfl⟩ := Prod.mk.inj (Option.some.inj hu)
       simp only [Bool.or_eq_true, beq_iff_eq] at hfl
       obtain ⟨u1, u2⟩ := g7 w' n f2 x2 B2 q.1 q.2 hC hZ hB2 hN2 hN21 hR2 hq hfl
       exact ⟨⟨u1, by rw [List.length_set]; exact hR.2⟩, u2⟩
      ·cases hu
   | l => simp [Ok] at hOk
   | r => simp [Ok] at hOk
  | unit => simp [Ok] at hOk
  | int _ => simp [Ok] at hOk
  | bool => simp [Ok] at hOk
  | str => simp [Ok] at hOk
end Go.Proofs.YtoeblmcibheldaaGreatDoor.V
end
section
/- What a write at one place leaves of the other places. No condition. -/
namespace Go.Proofs.YtoeblmcibheldaaGreatDoor.V
open Go
theorem csub_self {w : World} : ∀ (p : Path) {s : Sh} {cs : List Value} {ad : Option Addr} {cs1 : List Value} {ad1 : Option Addr}, sub w s cs ad p = some (cs1, ad1) → csub s cs p cs1 = cs := by
 intro p
 induction p with
 | nil => intro s cs ad cs1 ad1 h; rw [sub_nil] at h; rw [csub_nil]; exact (Prod.mk.inj (Option.some.inj h)).1.symm
 | cons st p ih =>
  intro s cs ad cs1 ad1 h
  cases s with
  | pr a b =>
   cases st with
   | l => simp only [sub] at h; simp only [csub]; rw [ih h, List.take_append_drop]
   | r => simp only [sub] at h; simp only [csub]; rw [ih h, List.take_append_drop]
   | el i => simp [sub] at h
  | sl e s0 => cases st <;> first | rfl | simp [sub] at h
  | unit => simp [sub] at h
  | int _ => simp [sub] at h
  | bool => simp [sub] at h
  | str => simp [sub] at h
theorem sub_frame {w w' : World} {Z : Nat → Prop} : ∀ (p : Path) {s : Sh} {f : Fl} {x : s.ty} {cs : List Value} {ad : Option Addr} {B : Nat → Prop}, Rep w Z s f x cs B → Ok s f x p → (∀ b, B b → w'.heap[b]? = w.heap[b]?) → sub w' s cs ad p = sub w s cs ad p := by
 intro p
 induction p with
 | nil => intro s f x cs ad B _ _ _; rw [sub_nil, sub_nil]
 | cons st p ih =>
  intro s f x cs ad B hR hOk hb
  cases s with
  | pr a b =>
   obtain ⟨c1, c2, B1, B2, rfl, k1, k2, k3, k4, k5⟩ := hR
   cases st with
   | l => simp only [sub]; rw [List.take_left' k4.len]; exact ih k4 hOk (fun b h => hb b (k1 b h))
   | r => simp only [sub]; rw [List.drop_left' k4.len]; exact ih k5 hOk (fun b h => hb b (k2 b h))
   | el i => simp [Ok] at hOk
  | sl e s0 =>
   cases st with
   | el i =>
    obtain ⟨hf, hi, hOk'⟩ := hOk
    have aux : ∀ f0 : Fl, Ok s0 f0 (x.getD i s0.zero) p → OwnR w e s0.size (fun x c B' => Rep w Z s0 f0 x c B') s0.zero x cs B → sub w' (.sl e s0) cs ad (.el i :: p) = sub w (.sl e s0) cs ad (.el i :: p) := by
     intro f0 hO hR
     rcases hR with ⟨A, rfl, rfl⟩ | ⟨g, cap, cur, rows, Bs, rfl, h2, h3, h4, h5, h6, h7, h8⟩
     ·simp at hi
     ·obtain ⟨q1, q2, q3, q4⟩ := h7 i hi
      simp only [sub]
      rw [rowCells_eq (w := w) q1 (fun j hj => by rw [add_add, cell_row h2, q2 j hj]), rowCells_eq (w := w') q1 (fun j hj => by rw [add_add, cell_row ((hb g h6).trans h2), q2 j hj])]
      exact ih q4 hO (fun b h => hb b (q3 b h).1)
    rcases hf with rfl | rfl | ⟨n0, c0, rfl⟩
    ·exact aux _ hOk' hR
    ·exact aux _ hOk' hR
    ·exact aux _ hOk' hR.1
   | l => simp [Ok] at hOk
   | r => simp [Ok] at hOk
  | unit => simp [Ok] at hOk
  | int _ => simp [Ok] at hOk
  | bool => simp [Ok] at hOk
  | str => simp [Ok] at hOk
theorem pre_refl : ∀ p : Path, Path.pre p p = true
 | [] => rfl
 | a :: p => by simp [Path.pre, pre_refl p]
theorem pre_nil : ∀ q : Path, Path.pre q [] = true → q = []
 | [], _ => rfl
 | a :: q, h => by simp [Path.pre] at h
/-- places that do not lie below the one that is written are places still, of the same shape -/
theorem upd_other {s1 : Sh} {f2 : Fl} {x2 : s1.ty} : ∀ (p q : Path) {s : Sh} {f : Fl} {x : s.ty} {f' : Fl} {x' : s.ty}, upd s1 f2 x2 s f x p = some (f', x') → below p q = false → Ok s f x q →
  ∀ {s3 : Sh} {f3 : Fl} {x3 : s3.ty}, get s f x q = some ⟨s3, f3, x3⟩ → Ok s f' x' q ∧ ∃ f4 x4, get s f' x' q = some ⟨s3, f4, x4⟩ := by
 intro p
 induction p with
 | nil =>
  intro q s f x f' x' hu hb hOk s3 f3 x3 hg
  have hq : q = [] := by
   cases q with
   | nil => rfl
   | cons a q => simp [below, Path.pre] at hb
  subst hq
  have e1 : ∀ (f : Fl) (x : s.ty), get s f x [] = some ⟨s, f, x⟩ := fun f x => by cases s <;> rfl
  rw [e1] at hg
  have := Option.some.inj hg
  simp only [Sigma.mk.injEq] at this
  obtain ⟨rfl, _⟩ := this
  exact ⟨by cases s <;> trivial, f', x', e1 f' x'⟩
 | cons st p ih =>
  intro q s f x f' x' hu hb hOk s3 f3 x3 hg
  cases q with
  | nil =>
   have e1 : ∀ (f : Fl) (x : s.ty), get s f x [] = some ⟨s, f, x⟩ := fun f x => by cases s <;> rfl
   rw [e1] at hg
   have := Option.some.inj hg
   simp only [Sigma.mk.injEq] at this
   obtain ⟨rfl, _⟩ := this
   exact ⟨by cases s <;> trivial, f', x', e1 f' x'⟩
  | cons sq q =>
   have hb' : sq = st → below p q = false := fun e => by
    subst e
    simpa [below, Path.pre] using hb
   cases s with
   | pr a b =>
    cases st with
    | l =>
     simp only [upd] at hu
     cases hq : upd s1 f2 x2 a f.l x.1 p with
     | none => rw [hq] at hu; cases hu
     | some r =>
      rw [hq] at hu
      obtain ⟨rfl, rfl⟩ := Prod.mk.inj (Option.some.inj hu)
      cases sq with
      | l => exact ih q hq (hb' rfl) hOk hg
      | r => exact ⟨hOk, f3, x3, hg⟩
      | el i => simp [Ok] at hOk
    | r =>
     simp only [upd] at hu
     cases hq : upd s1 f2 x2 b f.r x.2 p with
     | none => rw [hq] at hu; cases hu
     | some r =>
      rw [hq] at hu
      obtain ⟨rfl, rfl⟩ := Prod.mk.inj (Option.some.inj hu)
      cases sq with
      | l => exact ⟨hOk, f3, x3, hg⟩
      | r => exact ih q hq (hb' rfl) hOk hg
      | el i => simp [Ok] at hOk
    | el i => simp [upd] at hu
   | sl e s0 =>
    cases sq with
    | el j =>
     obtain ⟨hf, hj, hOk'⟩ := hOk
     cases st with
     | el i =>
      have aux : ∀ (f0 : Fl) (y : s0.ty) (g : Fl), upd s1 f2 x2 s0 f0 (x.getD i s0.zero) p = some (g, y) → (s0.plain = true ∨ g = f0) → Ok s0 f0 (x.getD j s0.zero) q → get s0 f0 (x.getD j s0.zero) q = some ⟨s3, f3, x3⟩ → Ok s0 f0 ((x.set i y).getD j s0.zero) q ∧ ∃ f4 x4, get s0 f0 ((x.set i y).getD j s0.zero) q = some ⟨s3, f4, x4⟩ := by
       intro f0 y g hq hfl hO hG
       by_cases hij : i = j
       ·subst hij
        have e : (x.set i y).getD i s0.zero = y := by simp [List.getD_eq_getElem?_getD, hj]
        rw [e]
        have := ih q hq (hb' rfl) hO hG
        rcases hfl with h | h
        ·-- no slices inside: flags do not matter
         have key : ∀ (q : Path) {s : Sh} {fa fb : Fl} {x : s.ty}, s.plain = true → Ok s fa x q → ∀ {s3 : Sh} {f3 : Fl} {x3 : s3.ty}, get s fa x q = some ⟨s3, f3, x3⟩ → Ok s fb x q ∧ ∃ f4 x4, get s fb x q = some ⟨s3, f4, x4⟩ := by
          intro q
          induction q with
          | nil =>
           intro s fa fb x _ _ s3 f3 x3 hg
           have e1 : ∀ (f : Fl) (x : s.ty), get s f x [] = some ⟨s, f, x⟩ := fun f x => by cases s <;> rfl
           rw [e1] at hg
           have := Option.some.inj hg
           simp only [Sigma.mk.injEq] at this
           obtain ⟨rfl, _⟩ := this
           exact ⟨by cases s <;> trivial, fb, x, e1 fb x⟩
          | cons a q ih =>
           intro s fa fb x hp hO s3 f3 x3 hg
           cases s with
           | pr u v =>
            simp only [Sh.plain, Bool.and_eq_true] at hp
            cases a with
            | l => exact ih hp.1 hO hg
            | r => exact ih hp.2 hO hg
            | el i => simp [Ok] at hO
           | sl _ _ => simp [Sh.plain] at hp
           | unit => simp [Ok] at hO
           | int _ => simp [Ok] at hO
           | bool => simp [Ok] at hO
           | str => simp [Ok] at hO
         obtain ⟨t1, f4, x4, t2⟩ := this
         exact key q h t1 t2
        ·rw [← h]; exact this
       ·have e : (x.set i y).getD j s0.zero = x.getD j s0.zero := by rw [List.getD_eq_getElem?_getD, List.getD_eq_getElem?_getD, List.getElem?_set_ne hij]
        rw [e]
        exact ⟨hO, f3, x3, hG⟩
      simp only [upd] at hu
      rcases hf with rfl | rfl | ⟨n0, c0, rfl⟩
      ·simp only at hu
       cases hq : upd s1 f2 x2 s0 .own (x.getD i s0.zero) p with
       | none => rw [hq] at hu; cases hu
       | some r =>
        rw [hq] at hu
        simp only at hu
        split at hu
        ·rename_i hfl
         obtain ⟨rfl, rfl⟩ := Prod.mk.inj (Option.some.inj hu)
         simp only [Bool.or_eq_true, beq_iff_eq] at hfl
         obtain ⟨t1, t2⟩ := aux .own r.2 r.1 hq hfl hOk' hg
         exact ⟨⟨.inl rfl, by rw [List.length_set]; exact hj, t1⟩, t2⟩
        ·cases hu
      ·simp only at hu
       cases hq : upd s1 f2 x2 s0 .fz (x.getD i s0.zero) p with
       | none => rw [hq] at hu; cases hu
       | some r =>
        rw [hq] at hu
        simp only at hu
        split at hu
        ·rename_i hfl
         obtain ⟨rfl, rfl⟩ := Prod.mk.inj (Option.some.inj hu)
         simp only [Bool.or_eq_true, beq_iff_eq] at hfl
         obtain ⟨t1, t2⟩ := aux .fz r.2 r.1 hq hfl hOk' hg
         exact ⟨⟨.inr (.inl rfl), by rw [List.length_set]; exact hj, t1⟩, t2⟩
        ·cases hu
      ·simp only at hu
       cases hq : upd s1 f2 x2 s0 .own (x.getD i s0.zero) p with
       | none => rw [hq] at hu; cases hu
       | some r =>
        rw [hq] at hu
        simp only at hu
        split at hu
        ·rename_i hfl
         obtain ⟨rfl, rfl⟩ := Prod.mk.inj (Option.some.inj hu)
         simp only [Bool.or_eq_true, beq_iff_eq] at hfl
         obtain ⟨t1, t2⟩ := aux .own r.2 r.1 hq hfl hOk' hg
         exact ⟨⟨.inr (.inr ⟨_, _, rfl⟩), by rw [List.length_set]; exact hj, t1⟩, t2⟩
        ·cases hu
     | l => simp [upd] at hu
     | r => simp [upd] at hu
    | l => simp [Ok] at hOk
    | r => simp [Ok] at hOk
   | unit => simp [Ok] at hOk
   | int _ => simp [Ok] at hOk
   | bool => simp [Ok] at hOk
   | str => simp [Ok] at hOk
theorem csub_len {w : World} {n : List Value} : ∀ (p : Path) {s : Sh} {cs : List Value} {ad : Option Addr} {cs1 : List Value} {ad1 : Option Addr}, sub w s cs ad p = some (cs1, ad1) → n.length = cs1.length → (csub s cs p n).length = cs.length := by
 intro p
 induction p with
 | nil => intro s cs ad cs1 ad1 h hn; rw [sub_nil] at h; rw [csub_nil]; obtain ⟨rfl, _⟩ := Prod.mk.inj (Option.some.inj h); exact hn
 | cons st p ih =>
  intro s cs ad cs1 ad1 h hn
  cases s with
  | pr a b =>
   cases st with
   | l => simp only [sub] at h; simp only [csub, List.length_append]; rw [ih h hn, ← List.length_append, List.take_append_drop]
   | r => simp only [sub] at h; simp only [csub, List.length_append]; rw [ih h hn, ← List.length_append, List.take_append_drop]
   | el i => simp [sub] at h
  | sl e s0 => cases st <;> first | rfl | simp [sub] at h
  | unit => simp [sub] at h
  | int _ => simp [sub] at h
  | bool => simp [sub] at h
  | str => simp [sub] at h
/-- behind a write the whole's own cells are those of csub -/
theorem wr_at {w w' : World} {Z : Nat → Prop} : ∀ (p : Path) {s : Sh} {f : Fl} {x : s.ty} {cs : List Value} {ad : Option Addr} {B : Nat → Prop}, Rep w Z s f x cs B → At w ad cs → (∀ A, ad = some A → ¬ B A.block) → Ok s f x p →
  ∀ {s1 : Sh} {f1 : Fl} {x1 : s1.ty} {cs1 : List Value} {ad1 : Option Addr} {n : List Value}, get s f x p = some ⟨s1, f1, x1⟩ → sub w s cs ad p = some (cs1, ad1) → Chg w w' ad1 cs1 n → n.length = cs1.length → At w' ad (csub s cs p n) := by
 intro p s f x cs ad B hR hA hN hOk s1 f1 x1 cs1 ad1 n hg hs hC hn A hAd j hj
 obtain ⟨cs1', ad1', Bp, t1, t2, t3, _⟩ := lens p hR hA hN hOk hg
 rw [t1] at hs
 obtain ⟨rfl, rfl⟩ := Prod.mk.inj (Option.some.inj hs)
 have hlen := csub_len p t1 hn
 have hc := hA A hAd j (by omega)
 rw [List.getElem?_eq_getElem (by omega)] at hc
 have hsp : A.spot = none := At.spot (hAd ▸ hA) (by omega)
 -- what csub holds, cell by cell
 have key : ∀ (p : Path) {s : Sh} {f : Fl} {x : s.ty} {cs : List Value} {ad : Option Addr} {B : Nat → Prop}, Rep w Z s f x cs B → At w ad cs → (∀ A, ad = some A → ¬ B A.block) → Ok s f x p → ∀ {s1 : Sh} {f1 : Fl} {x1 : s1.ty} {cs1 : List Value} {ad1 : Option Addr}, get s f x p = some ⟨s1, f1, x1⟩ → sub w s cs ad p = some (cs1, ad1) → n.length = cs1.length →
   (csub s cs p n = cs ∧ ∀ A, ad = some A → ∀ A1, ad1 = some A1 → A.block ≠ A1.block) ∨ ∃ off, ad1 = ad.map (·.add off) ∧ off + n.length ≤ cs.length ∧ (∀ k, (k < off ∨ off + n.length ≤ k) → (csub s cs p n)[k]? = cs[k]?) ∧ ∀ k, k < n.length → (csub s cs p n)[off + k]? = n[k]? := by
  intro p
  induction p with
  | nil =>
   intro s f x cs ad B _ _ _ _ s1 f1 x1 cs1 ad1 _ hs hn
   rw [sub_nil] at hs
   obtain ⟨rfl, rfl⟩ := Prod.mk.inj (Option.some.inj hs)
   rw [csub_nil]
   exact .inr ⟨0, by cases ad <;> simp [Addr.add], by omega, fun k hk => by rw [List.getElem?_eq_none (by omega), List.getElem?_eq_none (by omega)], fun k hk => by rw [Nat.zero_add]⟩
  | cons st p ih =>
   intro s f x cs ad B hR hA hN hOk s1 f1 x1 cs1 ad1 hg hs hn
   cases s with
   | pr a b =>
    obtain ⟨c1, c2, B1, B2, rfl, k1, k2, k3, k4, k5⟩ := hR
    have hl := k4.len
    cases st with
    | l =>
     have hA1 : At w ad c1 := fun A h j hj => by
      have := hA A h j (by rw [List.length_append]; omega)
      rwa [List.getElem?_append_left hj] at this
     simp only [sub] at hs
     rw [List.take_left' hl] at hs
     have hcl : csub (.pr a b) (c1 ++ c2) (.l :: p) n = csub a c1 p n ++ c2 := by simp only [csub]; rw [List.take_left' hl, List.drop_left' hl]
     have hnl := csub_len p hs hn
     rw [hcl]
     rcases ih k4 hA1 (fun A h hb => hN A h (k1 _ hb)) hOk hg hs hn with ⟨h1, h2⟩ | ⟨off, h1, h2, h3, h4⟩
     ·exact .inl ⟨by rw [h1], h2⟩
     ·refine .inr ⟨off, h1, by rw [List.length_append]; omega, fun k hk => ?_, fun k hk => ?_⟩
      ·by_cases hkl : k < c1.length
       ·rw [List.getElem?_append_left (by omega), List.getElem?_append_left hkl]; exact h3 k hk
       ·rw [List.getElem?_append_right (by omega), List.getElem?_append_right (by omega), hnl]
      ·rw [List.getElem?_append_left (by omega)]; exact h4 k hk
    | r =>
     have hA2 : At w (ad.map (·.add a.size)) c2 := fun A h j hj => by
      obtain ⟨A0, rfl, rfl⟩ := Option.map_eq_some_iff.1 h
      have := hA A0 rfl (c1.length + j) (by rw [List.length_append]; omega)
      rw [List.getElem?_append_right (by omega)] at this
      rw [add_add, ← hl, this]
      congr 1
      omega
     have hN2 : ∀ A, ad.map (·.add a.size) = some A → ¬ B2 A.block := by
      intro A h hb
      obtain ⟨A0, h1, h2⟩ := Option.map_eq_some_iff.1 h
      rw [← h2, add_block] at hb
      exact hN A0 h1 (k2 _ hb)
     simp only [sub] at hs
     rw [List.drop_left' hl] at hs
     have hcl : csub (.pr a b) (c1 ++ c2) (.r :: p) n = c1 ++ csub b c2 p n := by simp only [csub]; rw [List.take_left' hl, List.drop_left' hl]
     have hnl := csub_len p hs hn
     rw [hcl]
     rcases ih k5 hA2 hN2 hOk hg hs hn with ⟨h1, h2⟩ | ⟨off, h1, h2, h3, h4⟩
     ·refine .inl ⟨by rw [h1], fun A hA' A1 hA1 => ?_⟩
      have := h2 (A.add a.size) (by rw [hA']; rfl) A1 hA1
      rwa [add_block] at this
     ·refine .inr ⟨a.size + off, ?_, by rw [List.length_append]; omega, fun k hk => ?_, fun k hk => ?_⟩
      ·rw [h1]
       cases ad with
       | none => rfl
       | some A => simp [add_add]
      ·by_cases hkl : k < c1.length
       ·rw [List.getElem?_append_left hkl, List.getElem?_append_left hkl]
       ·rw [List.getElem?_append_right (by omega), List.getElem?_append_right (by omega)]; exact h3 _ (by omega)
      ·rw [List.getElem?_append_right (by omega), show a.size + off + k - c1.length = off + k from by omega]; exact h4 k hk
    | el i => simp [Ok] at hOk
   | sl e s0 =>
    cases st with
    | el i =>
     refine .inl ⟨rfl, fun A hA' A1 hA1 hEq => ?_⟩
     obtain ⟨cs1', ad1', Bp, t1, t2, t3, t4, t5, t6, t7⟩ := lens (.el i :: p) hR hA hN hOk hg
     rw [t1] at hs
     obtain ⟨rfl, rfl⟩ := Prod.mk.inj (Option.some.inj hs)
     obtain ⟨hf, hi, hOk'⟩ := hOk
     have aux : ∀ f0 : Fl, OwnR w e s0.size (fun x c B' => Rep w Z s0 f0 x c B') s0.zero x cs B → Ok s0 f0 (x.getD i s0.zero) p → get s0 f0 (x.getD i s0.zero) p = some ⟨s1, f1, x1⟩ → B A1.block := by
      intro f0 hR hO hG
      obtain ⟨cs1', ad1', B1, g1, g2, g3, _⟩ := lens_row hi (fun {_ _ _ _ _} a1 a2 a3 a4 {_ _ _} a5 => lens p a1 a2 a3 a4 a5) hR hA hN hO hG
      rw [t1] at g1
      obtain ⟨rfl, rfl⟩ := Prod.mk.inj (Option.some.inj g1)
      exact g3.2 A1 hA1
     refine hN A hA' (hEq ▸ ?_)
     rcases hf with rfl | rfl | ⟨n0, c0, rfl⟩
     ·exact aux _ hR hOk' hg
     ·exact aux _ hR hOk' hg
     ·exact aux _ hR.1 hOk' hg
    | l => simp [Ok] at hOk
    | r => simp [Ok] at hOk
   | unit => simp [Ok] at hOk
   | int _ => simp [Ok] at hOk
   | bool => simp [Ok] at hOk
   | str => simp [Ok] at hOk
 rw [hlen] at hj
 rcases hC with ⟨rfl, rfl⟩ | ⟨A', e1, e2, e3, e4⟩
 ·rw [csub_self p t1]; exact hA A hAd j hj
 ·obtain ⟨_, cur, e, fr, hcu⟩ := cell_some hc
  rw [add_block] at hcu
  rcases key p hR hA hN hOk hg t1 hn with ⟨h1, h2⟩ | ⟨off, h1, h2, h3, h4⟩
  ·rw [h1, ← hA A hAd j hj]
   exact World.cell?_of_block (by rw [add_block]; exact e4.other _ (h2 A hAd A' e1))
  ·rw [hAd, e1] at h1
   have h6 : A' = A.add off := by simpa using h1
   have h7 := (add_off hsp off).1
   have hbk : A'.block = A.block := by rw [h6, add_block]
   rw [cell_at hsp (show w'.heap[A.block]? = some (.cells (wrArr cur A'.off n) e fr) from by rw [← hbk]; exact e4.here _ _ _ (by rw [hbk]; exact hcu))]
   by_cases hjj : j < off ∨ off + n.length ≤ j
   ·rw [wrArr_out _ _ _ _ (by rw [h6, h7]; omega), h3 j hjj, ← hA A hAd j hj, cell_at hsp hcu]
   ·have e5 : j = off + (j - off) := by omega
    rw [e5, h4 _ (by omega), ← Nat.add_assoc, ← h7, ← h6]
    refine wrArr_in n cur _ _ ?_ (by omega)
    have h8 := hA A hAd (cs.length - 1) (by omega)
    rw [cell_at hsp hcu, List.getElem?_eq_getElem (by omega)] at h8
    have := (Array.getElem?_eq_some_iff.1 h8).1
    rw [h6, h7]
    omega
/-- where the other places lie behind a write, and what their own cells are -/
theorem lens_q {w w' : World} {Z : Nat → Prop} : ∀ (p q : Path) {s : Sh} {f : Fl} {x : s.ty} {cs : List Value} {ad : Option Addr} {B : Nat → Prop}, Rep w Z s f x cs B → At w ad cs → (∀ A, ad = some A → ¬ B A.block) → Ok s f x p →
  ∀ {s1 : Sh} {f1 : Fl} {x1 : s1.ty} {cs1 : List Value} {ad1 : Option Addr} {n : List Value}, get s f x p = some ⟨s1, f1, x1⟩ → sub w s cs ad p = some (cs1, ad1) → Chg w w' ad1 cs1 n → n.length = cs1.length →
  below p q = false → Ok s f x q → ∀ {s3 : Sh} {f3 : Fl} {x3 : s3.ty} {cs3 : List Value} {ad3 : Option Addr}, get s f x q = some ⟨s3, f3, x3⟩ → sub w s cs ad q = some (cs3, ad3) →
  ∃ cs4, sub w' s (csub s cs p n) ad q = some (cs4, ad3) ∧ (Path.pre p q = false → s3.isSl = true → cs4 = cs3) := by
 intro p
 induction p with
 | nil =>
  intro q s f x cs ad B _ _ _ _ s1 f1 x1 cs1 ad1 n _ hs hC _ hb _ s3 f3 x3 cs3 ad3 _ hs3
  have hq : q = [] := by
   cases q with
   | nil => rfl
   | cons a q => simp [below, Path.pre] at hb
  subst hq
  rw [sub_nil] at hs3
  obtain ⟨rfl, rfl⟩ := Prod.mk.inj (Option.some.inj hs3)
  exact ⟨_, sub_nil _ _ _ _, fun h => by simp [Path.pre] at h⟩
 | cons st p ih =>
  intro q s f x cs ad B hR hA hN hOk s1 f1 x1 cs1 ad1 n hg hs hC hn hb hOq s3 f3 x3 cs3 ad3 hg3 hs3
  cases q with
  | nil =>
   rw [sub_nil] at hs3
   obtain ⟨rfl, rfl⟩ := Prod.mk.inj (Option.some.inj hs3)
   refine ⟨_, sub_nil _ _ _ _, fun _ hsl => ?_⟩
   have e1 : get s f x [] = some ⟨s, f, x⟩ := by cases s <;> rfl
   rw [e1] at hg3
   have := Option.some.inj hg3
   simp only [Sigma.mk.injEq] at this
   obtain ⟨rfl, _⟩ := this
   cases s with
   | sl e s0 => cases st <;> rfl
   | unit => simp [Sh.isSl] at hsl
   | int _ => simp [Sh.isSl] at hsl
   | bool => simp [Sh.isSl] at hsl
   | str => simp [Sh.isSl] at hsl
   | pr a b => simp [Sh.isSl] at hsl
  | cons sq q =>
   have hb' : sq = st → below p q = false := fun e => by
    subst e
    simpa [below, Path.pre] using hb
   have hpre : sq = st → (Path.pre (st :: p) (sq :: q) = Path.pre p q) := fun e => by subst e; simp [Path.pre]
   cases s with
   | pr a b =>
    obtain ⟨c1, c2, B1, B2, rfl, k1, k2, k3, k4, k5⟩ := hR
    have hl := k4.len
    have hA1 : At w ad c1 := fun A h j hj => by
     have := hA A h j (by rw [List.length_append]; omega)
     rwa [List.getElem?_append_left hj] at this
    have hA2 : At w (ad.map (·.add a.size)) c2 := fun A h j hj => by
     obtain ⟨A0, rfl, rfl⟩ := Option.map_eq_some_iff.1 h
     have := hA A0 rfl (c1.length + j) (by rw [List.length_append]; omega)
     rw [List.getElem?_append_right (by omega)] at this
     rw [add_add, ← hl, this]
     congr 1
     omega
    have hN1 : ∀ A, ad = some A → ¬ B1 A.block := fun A h hb => hN A h (k1 _ hb)
    have hN2 : ∀ A, ad.map (·.add a.size) = some A → ¬ B2 A.block := by
     intro A h hb
     obtain ⟨A0, h1, h2⟩ := Option.map_eq_some_iff.1 h
     rw [← h2, add_block] at hb
     exact hN A0 h1 (k2 _ hb)
    cases st with
    | l =>
     simp only [sub] at hs
     rw [List.take_left' hl] at hs
     have hcl : csub (.pr a b) (c1 ++ c2) (.l :: p) n = csub a c1 p n ++ c2 := by simp only [csub]; rw [List.take_left' hl, List.drop_left' hl]
     have hnl : (csub a c1 p n).length = a.size := by
      obtain ⟨cs1', ad1', Bp, t1, t2⟩ := lens p k4 hA1 hN1 hOk hg
      rw [t1] at hs
      obtain ⟨rfl, rfl⟩ := Prod.mk.inj (Option.some.inj hs)
      rw [csub_len p t1 hn]; exact hl
     rw [hcl]
     cases sq with
     | l =>
      simp only [sub] at hs3 ⊢
      rw [List.take_left' hl] at hs3
      rw [List.take_left' hnl, hpre rfl]
      exact ih q k4 hA1 hN1 hOk hg hs hC hn (hb' rfl) hOq hg3 hs3
     | r =>
      simp only [sub] at hs3 ⊢
      rw [List.drop_left' hl] at hs3
      rw [List.drop_left' hnl]
      refine ⟨cs3, ?_, fun _ _ => rfl⟩
      rw [← hs3]
      refine sub_frame q k5 hOq (fun b hb2 => ?_)
      obtain ⟨cs1', ad1', Bp, t1, t2, t3, _⟩ := lens p k4 hA1 hN1 hOk hg
      rw [t1] at hs
      obtain ⟨rfl, rfl⟩ := Prod.mk.inj (Option.some.inj hs)
      refine hC.other b (fun A hA' hEq => ?_)
      subst hEq
      rcases t3.block A hA' with ⟨A0, h1, h2⟩ | h
      ·exact hN A0 h1 (h2 ▸ k2 _ hb2)
      ·exact k3 _ h hb2
     | el i => simp [Ok] at hOq
    | r =>
     simp only [sub] at hs
     rw [List.drop_left' hl] at hs
     have hcl : csub (.pr a b) (c1 ++ c2) (.r :: p) n = c1 ++ csub b c2 p n := by simp only [csub]; rw [List.take_left' hl, List.drop_left' hl]
     rw [hcl]
     cases sq with
     | l =>
      simp only [sub] at hs3 ⊢
      rw [List.take_left' hl] at hs3 ⊢
      refine ⟨cs3, ?_, fun _ _ => rfl⟩
      rw [← hs3]
      refine sub_frame q k4 hOq (fun b hb2 => ?_)
      obtain ⟨cs1', ad1', Bp, t1, t2, t3, _⟩ := lens p k5 hA2 hN2 hOk hg
      rw [t1] at hs
      obtain ⟨rfl, rfl⟩ := Prod.mk.inj (Option.some.inj hs)
      refine hC.other b (fun A hA' hEq => ?_)
      subst hEq
      rcases t3.block A hA' with ⟨A0, h1, h2⟩ | h
      ·obtain ⟨A1, h3, h4⟩ := Option.map_eq_some_iff.1 h1
       rw [← h4, add_block] at h2
       exact hN A1 h3 (h2 ▸ k1 _ hb2)
      ·exact k3 _ hb2 h
     | r =>
      simp only [sub] at hs3 ⊢
      rw [List.drop_left' hl] at hs3 ⊢
      rw [hpre rfl]
      exact ih q k5 hA2 hN2 hOk hg hs hC hn (hb' rfl) hOq hg3 hs3
     | el i => simp [Ok] at hOq
    | el i => simp [Ok] at hOk
   | sl e s0 =>
    cases st with
    | el i =>
     cases sq with
     | el j =>
      obtain ⟨hf, hi, hOp'⟩ := hOk
      obtain ⟨_, hj, hOq'⟩ := hOq
      have aux : ∀ f0 : Fl, Ok s0 f0 (x.getD i s0.zero) p → Ok s0 f0 (x.getD j s0.zero) q → get s0 f0 (x.getD i s0.zero) p = some ⟨s1, f1, x1⟩ → get s0 f0 (x.getD j s0.zero) q = some ⟨s3, f3, x3⟩ → OwnR w e s0.size (fun x c B' => Rep w Z s0 f0 x c B') s0.zero x cs B →
        ∃ cs4, sub w' (.sl e s0) cs ad (.el j :: q) = some (cs4, ad3) ∧ (Path.pre (.el i :: p) (.el j :: q) = false → s3.isSl = true → cs4 = cs3) := by
       intro f0 hO1 hO2 hg1 hg2 hR
       rcases hR with ⟨A, rfl, rfl⟩ | ⟨g, cap, cur, rows, Bs, rfl, h2, h3, h4, h5, h6, h7, h8⟩
       ·simp at hi
       obtain ⟨q1, q2, q3, q4⟩ := h7 i hi
       obtain ⟨u1, u2, u3, u4⟩ := h7 j hj
       have hAr : ∀ i : Nat, i < x.length → At w (some ((⟨g, 0, none⟩ : Addr).add (i * s0.size))) (rows i) := by
        intro i hi A hA' k hk
        obtain rfl := Option.some.inj hA'
        rw [(h7 i hi).1] at hk
        rw [add_add, cell_row h2, (h7 i hi).2.1 k hk]
       have hNr : ∀ i : Nat, i < x.length → ∀ A, some ((⟨g, 0, none⟩ : Addr).add (i * s0.size)) = some A → ¬ Bs i A.block := by
        intro i hi A hA' hb
        obtain rfl := Option.some.inj hA'
        rw [add_block] at hb
        exact ((h7 i hi).2.2.1 _ hb).2 rfl
       simp only [sub] at hs hs3
       rw [rowCells_eq q1 (fun k hk => by rw [add_add, cell_row h2, q2 k hk])] at hs
       rw [rowCells_eq u1 (fun k hk => by rw [add_add, cell_row h2, u2 k hk])] at hs3
       obtain ⟨cs1', ad1', Bp, t1, t2, t3, t4, t5, t6, t7⟩ := lens p q4 (hAr i hi) (hNr i hi) hO1 hg1
       have hs' := hs
       rw [t1] at hs'
       obtain ⟨rfl, rfl⟩ := Prod.mk.inj (Option.some.inj hs')
       by_cases hij : i = j
       ·subst hij
        obtain ⟨cs4, v1, v2⟩ := ih q q4 (hAr i hi) (hNr i hi) hO1 hg1 hs hC hn (hb' rfl) hO2 hg2 hs3
        refine ⟨cs4, ?_, fun hp => v2 (by rwa [hpre rfl] at hp)⟩
        simp only [sub]
        rw [← v1]
        congr 1
        -- the element's cells behind the write
        refine rowCells_eq ((csub_len p t1 hn).trans q1) (fun k hk => ?_)
        exact wr_at p q4 (hAr i hi) (hNr i hi) hO1 hg1 t1 hC hn _ rfl k (by rw [csub_len p t1 hn, q1]; exact hk)
       ·refine ⟨cs3, ?_, fun _ _ => rfl⟩
        simp only [sub]
        rw [rowCells_eq u1 (fun k hk => ?_)]
        ·rw [← hs3]
         refine sub_frame q u4 hO2 (fun b hb2 => hC.other b (fun A hA' hEq => ?_))
         subst hEq
         rcases t3.block A hA' with ⟨A0, e1, e2⟩ | h
         ·obtain rfl := Option.some.inj e1
          rw [add_block] at e2
          exact (u3 _ hb2).2 e2.symm
         ·exact h8 i j _ hi hj hij h hb2
        ·have hc := hAr j hj _ rfl k (by omega)
         rw [List.getElem?_eq_getElem (by omega)] at hc
         rw [List.getElem?_eq_getElem (by omega)]
         rcases hC with ⟨rfl, _⟩ | ⟨A', e1, e2, e3, e4⟩
         ·exact hc
         ·rw [add_add] at hc ⊢
          by_cases hbk : A'.block = g
          ·rcases t3 with ⟨off, p1, p2⟩ | ⟨_, p2⟩
           ·rw [e1] at p1
            have e5 : A' = ((⟨g, 0, none⟩ : Addr).add (i * s0.size)).add off := by simpa using p1
            have e6 : A'.off = i * s0.size + off := by
             have := (add_off (add_off (A := ⟨g, 0, none⟩) rfl (i * s0.size)).2 off).1
             rw [← e5, (add_off (A := ⟨g, 0, none⟩) rfl (i * s0.size)).1] at this
             simpa using this
            rw [cell_row h2] at hc
            rw [cell_row (by rw [← hbk]; exact e4.here _ _ _ (by rw [hbk]; exact h2)), wrArr_out _ _ _ _ ?_]
            ·exact hc
            ·rw [e6]
             rcases Nat.lt_or_gt_of_ne hij with h | h
             ·have := Nat.mul_le_mul_right s0.size (show i + 1 ≤ j from h)
              rw [Nat.add_mul, Nat.one_mul] at this
              omega
             ·have := Nat.mul_le_mul_right s0.size (show j + 1 ≤ i from h)
              rw [Nat.add_mul, Nat.one_mul] at this
              omega
           ·exact absurd (p2 A' e1) (fun h => (q3 _ h).2 hbk)
          ·rw [World.cell?_of_block (w := w) (by rw [add_block]; exact e4.other g (fun h => hbk h.symm))]
           exact hc
      have hcs : csub (.sl e s0) cs (.el i :: p) n = cs := rfl
      rw [hcs]
      rcases hf with rfl | rfl | ⟨n0, c0, rfl⟩
      ·exact aux _ hOp' hOq' hg hg3 hR
      ·exact aux _ hOp' hOq' hg hg3 hR
      ·exact aux _ hOp' hOq' hg hg3 hR.1
     | l => simp [Ok] at hOq
     | r => simp [Ok] at hOq
    | l => simp [Ok] at hOk
    | r => simp [Ok] at hOk
   | unit => simp [Ok] at hOk
   | int _ => simp [Ok] at hOk
   | bool => simp [Ok] at hOk
   | str => simp [Ok] at hOk
end Go.Proofs.YtoeblmcibheldaaGreatDoor.V
end
section
/- The state of the reading against the temporaries and the memory of a call. No condition. -/
namespace Go.Proofs.YtoeblmcibheldaaGreatDoor.V
open Go Go.RowKit
def mkV (agg : Bool) (cs : List Value) (v : Value) : Prop := if agg = true then v = .agg cs.toArray else cs = [v]
def aggV (g : Bool) (cs : List Value) : Value := if g = true then .agg cs.toArray else cs.headD undef
def tupV : List Bool → Sh → List Value → List Value
 | [], _, _ => []
 | [g], _, cs => [aggV g cs]
 | g :: h :: r, .pr a b, cs => aggV g (cs.take a.size) :: tupV (h :: r) b (cs.drop a.size)
 | _ :: _ :: _, _, _ => []
def tupOk : List Bool → Sh → Bool
 | [], _ => true
 | [g], s => g || s.isSl || s.plain && s.size == 1
 | g :: h :: r, .pr a b => (g || a.isSl || a.plain && a.size == 1) && tupOk (h :: r) b
 | _ :: _ :: _, _ => false
/-- the cells of what a temporary holds, and where they lie -/
def RootAt (w : World) (k : RK) (s : Sh) (v : Value) (cs : List Value) (ad : Option Addr) : Prop :=
 match k with
 | .val agg => mkV agg cs v ∧ (agg = false → s.isSl = true) ∧ ad = none
 | .box t => ∃ b, v = .pointer (some ⟨b, 0, none⟩) ∧ w.heap[b]? = some (.cells cs.toArray t (0, 0)) ∧ ad = some ⟨b, 0, none⟩
 | .ibox t b => v = .pointer (some ⟨b, 0, none⟩) ∧ w.heap[b]? = some (.cells cs.toArray t (0, 0)) ∧ ad = some ⟨b, 0, none⟩
 | .tup aggs => v = .tuple (tupV aggs s cs).toArray ∧ tupOk aggs s = true ∧ ad = none
/-- how the state lies in memory: the frozen zone, each root's own blocks, its cells and where they lie -/
structure Lay where
 Z : Nat → Prop
 F : Nat → Nat → Prop
 C : Nat → List Value
 D : Nat → Option Addr
def Place (L : Lay) (st : St) (w : World) (g : Nat) (p : Path) (s1 : Sh) (cs1 : List Value) (ad1 : Option Addr) : Prop :=
 ∃ k s f x, st.at g = .root k s f x ∧ Ok s f x p ∧ (∃ f1 x1, get s f x p = some ⟨s1, f1, x1⟩) ∧ sub w s (L.C g) (L.D g) p = some (cs1, ad1)
def FaRep (w : World) (Z : Nat → Prop) (s : Sh) (x : s.ty) (v : Value) : Prop :=
 ∃ ad cs, v = .pointer (some ad) ∧ cs.length = s.size ∧ Z ad.block ∧ (∀ j, j < s.size → w.cell? (ad.add j) = cs[j]?) ∧ Rep w Z s .fz x cs (fun _ => False)
def CapRep (L : Lay) (st : St) (w : World) : Cap → Value → Prop
 | .adr g p, v => ∃ s1 cs1 A, Place L st w g p s1 cs1 (some A) ∧ v = .pointer (some A)
 | .fadr s x, v => FaRep w L.Z s x v
/-- the package's variables that never turn: a block, what its cells are -/
def gls : List (Nat × (Array Value → Prop)) := [(0, fun cs => cs = #[.string ⟨#[119, 114, 105, 116, 101]⟩, .string ⟨#[114, 101, 97, 100]⟩, .string ⟨#[99, 117, 116]⟩, .string ⟨#[111, 112, 101, 110]⟩]), (3, fun cs => cs = (Lib.pow10Tab.map fun z => Value.int .u64 z).toArray), (1, fun cs => cs = (Lib.asciiSpaceTab.map fun z => Value.int .u8 z).toArray), (7, fun cs => ∃ tp p, cs = #[.iface tp p]), (8, fun cs => ∃ tp p, cs = #[.iface tp p]), (4, fun cs => ∃ m, cs[0]? = some (Value.int .i64 m))]
/-- they lie frozen and hold what is told -/
def GOk (Z : Nat → Prop) (w : World) : Prop := ∀ p, p ∈ gls → Z p.1 ∧ ∃ cs x y, w.heap[p.1]? = some (.cells cs x y) ∧ p.2 cs
structure ZOk (Z : Nat → Prop) (w : World) : Prop where
 lt : ∀ b, Z b → b < w.heap.size
 gl : GOk Z w
instance {Z : Nat → Prop} {w : World} : CoeFun (ZOk Z w) (fun _ => ∀ b, Z b → b < w.heap.size) := ⟨ZOk.lt⟩
theorem GOk.up {Z Z' : Nat → Prop} {w : World} (h : GOk Z w) (k : ∀ b, Z b → Z' b) : GOk Z' w := fun p hp => ⟨k _ (h p hp).1, (h p hp).2⟩
theorem GOk.step {Z : Nat → Prop} {w w' : World} (h : GOk Z w) (k : ∀ b, Z b → w'.heap[b]? = w.heap[b]?) : GOk Z w' := fun p hp => ⟨(h p hp).1, by rw [k _ (h p hp).1]; exact (h p hp).2⟩
/-- a value that is no root -/
def ORep (L : Lay) (st : St) (w : World) : PV → Value → Prop
 | .dead, _ => True
 | .v agg s x, v => ∃ cs, mkV agg cs v ∧ Rep w L.Z s .fz x cs (fun _ => False)
 | .emp, v => ∃ A, v = .slice A 0 0
 | .h agg g p, v => ∃ s1 cs1 ad1, Place L st w g p s1 cs1 ad1 ∧ mkV agg cs1 v ∧ (agg = false → s1.isSl = true)
 | .adr g p, v => ∃ s1 cs1 A, Place L st w g p s1 cs1 (some A) ∧ v = .pointer (some A)
 | .fadr s x, v => FaRep w L.Z s x v
 | .fn f caps, v => ∃ vs : List Value, v = .func (.func f) #[] vs.toArray ∧ vs.length = caps.length ∧ ∀ (i : Nat) (c : Cap) (u : Value), caps[i]? = some c → vs[i]? = some u → CapRep L st w c u
 | .root .., _ => False
def RRep (L : Lay) (w : World) (t : Nat) (k : RK) (s : Sh) (f : Fl) (x : s.ty) (v : Value) : Prop :=
 RootAt w k s v (L.C t) (L.D t) ∧ ∃ B : Nat → Prop, (∀ b, B b → L.F t b) ∧ (∀ A, L.D t = some A → ¬ B A.block ∧ L.F t A.block) ∧ Rep w L.Z s f x (L.C t) B
def PVRep (L : Lay) (st : St) (w : World) (t : Nat) : PV → Value → Prop
 | .root k s f x, v => RRep L w t k s f x v
 | pv, v => ORep L st w pv v
structure Rel (L : Lay) (st : St) (a : Act) (w : World) (R : Nat → Prop) : Prop where
 size : a.tmps.size = st.length
 defers : a.defers = []
 zlt : ZOk L.Z w
 flt : ∀ t b, L.F t b → b < w.heap.size ∧ ¬ L.Z b
 dj : ∀ t t' b, L.F t b → L.F t' b → t = t'
 rlt : ∀ b, R b → b < w.heap.size ∧ ¬ L.Z b
 rdj : ∀ t b, L.F t b → ¬ R b
 tmp : ∀ t, t < st.length → PVRep L st w t (st.at t) (a.tmps.getD t undef)
theorem RootAt.at_ {w : World} {k : RK} {s : Sh} {v : Value} {cs : List Value} {ad : Option Addr} (h : RootAt w k s v cs ad) : At w ad cs := by
 intro A hA j hj
 cases k with
 | val agg => rw [h.2.2] at hA; cases hA
 | box t =>
  obtain ⟨b, _, h2, h3⟩ := h
  rw [h3] at hA
  obtain rfl := Option.some.inj hA
  rw [cell_row h2]
  simp
 | ibox t b =>
  obtain ⟨_, h2, h3⟩ := h
  rw [h3] at hA
  obtain rfl := Option.some.inj hA
  rw [cell_row h2]
  simp
 | tup aggs => rw [h.2.2] at hA; cases hA
theorem alloc_keep (w : World) (o : Obj) (b : Nat) (h : b < w.heap.size) : (w.alloc o).heap[b]? = w.heap[b]? := by
 show (w.heap.push o)[b]? = _
 rw [Array.getElem?_push_lt h, Array.getElem?_eq_getElem h]
/-- the world has grown: blocks that stood are as they were -/
structure Ext (w w' : World) : Prop where
 os : w'.os = w.os
 tape : w'.tape = w.tape
 output : w'.output = w.output
 size : w.heap.size ≤ w'.heap.size
 block : ∀ b, b < w.heap.size → w'.heap[b]? = w.heap[b]?
theorem Ext.refl (w : World) : Ext w w := ⟨rfl, rfl, rfl, Nat.le_refl _, fun _ _ => rfl⟩
theorem Ext.trans {a b c : World} (h : Ext a b) (k : Ext b c) : Ext a c := ⟨k.os.trans h.os, k.tape.trans h.tape, k.output.trans h.output, Nat.le_trans h.size k.size, fun i hi => (k.block i (Nat.lt_of_lt_of_le hi h.size)).trans (h.block i hi)⟩
theorem Ext.alloc (w : World) (o : Obj) : Ext w (w.alloc o) := ⟨rfl, rfl, rfl, by simp, fun b hb => alloc_keep w o b hb⟩
theorem Ext.drew (w : World) : Ext w w.drew := ⟨rfl, rfl, rfl, Nat.le_refl _, fun _ _ => rfl⟩
section
variable {L : Lay} {st : St} {a : Act} {w : World} {R : Nat → Prop}
theorem St.at_ge {t : Nat} (h : st.length ≤ t) : st.at t = .dead := by
 unfold St.at
 rw [List.getD_eq_getElem?_getD, List.getElem?_eq_none h]; rfl
theorem root_lt {g : Nat} {k : RK} {s : Sh} {f : Fl} {x : s.ty} (h : st.at g = .root k s f x) : g < st.length := by
 rcases Nat.lt_or_ge g st.length with h1 | h1
 ·exact h1
 ·rw [St.at_ge h1] at h; cases h
theorem St.at_set {t d : Nat} {pv : PV} : St.at (st.set d pv) t = if t = d ∧ d < st.length then pv else st.at t := by
 unfold St.at
 rw [List.getD_eq_getElem?_getD, List.getD_eq_getElem?_getD, List.getElem?_set]
 by_cases h : d = t
 ·subst h
  by_cases hl : d < st.length
  ·simp [hl]
  ·simp [hl]
 ·have h' : ¬ t = d := fun e => h e.symm
  simp [h, h']
theorem St.at_map {t : Nat} {h : PV → PV} (hd : h .dead = .dead) : St.at (st.map h) t = h (st.at t) := by
 unfold St.at
 rw [List.getD_eq_getElem?_getD, List.getD_eq_getElem?_getD, List.getElem?_map]
 cases st[t]? <;> simp [hd]
theorem Rel.root (h : Rel L st a w R) {g : Nat} {k : RK} {s : Sh} {f : Fl} {x : s.ty} (hg : st.at g = .root k s f x) : RRep L w g k s f x (a.tmps.getD g undef) := by
 have := h.tmp g (root_lt hg)
 rw [hg] at this
 exact this
theorem PV.root_or (pv : PV) : (∃ k s f x, pv = .root k s f x) ∨ pv.isRoot = false := by
 cases pv with
 | root k s f x => exact .inl ⟨k, s, f, x, rfl⟩
 | _ => exact .inr rfl
theorem PVRep.of {t : Nat} {pv : PV} {v : Value} (h : pv.isRoot = false) : PVRep L st w t pv v = ORep L st w pv v := by
 cases pv <;> first | rfl | cases h
theorem Rel.orep (h : Rel L st a w R) {t : Nat} (hn : (st.at t).isRoot = false) : ORep L st w (st.at t) (a.tmps.getD t undef) := by
 rcases Nat.lt_or_ge t st.length with h1 | h1
 ·have := h.tmp t h1
  rwa [PVRep.of hn] at this
 ·rw [St.at_ge h1]; trivial
/-- a place's content -/
theorem Rel.place (h : Rel L st a w R) {g : Nat} {p : Path} {s1 : Sh} {cs1 : List Value} {ad1 : Option Addr} (hp : Place L st w g p s1 cs1 ad1) {f1 : Fl} {x1 : s1.ty} (hl : look st g p = some ⟨s1, f1, x1⟩) :
  At w ad1 cs1 ∧ (∀ A, ad1 = some A → L.F g A.block) ∧ ∃ B1 : Nat → Prop, (∀ b, B1 b → L.F g b) ∧ Rep w L.Z s1 f1 x1 cs1 B1 := by
 obtain ⟨k, s, f, x, e1, e2, _, e4⟩ := hp
 unfold look at hl
 rw [e1] at hl
 obtain ⟨r1, B, r2, r3, r4⟩ := h.root e1
 obtain ⟨cs1', ad1', B1, t1, t2, t3, t4, t5, t6, _⟩ := lens p r4 r1.at_ (fun A hA => (r3 A hA).1) e2 hl
 rw [t1] at e4
 obtain ⟨rfl, rfl⟩ := Prod.mk.inj (Option.some.inj e4)
 refine ⟨t2, fun A hA => ?_, B1, fun b hb => r2 b (t4 b hb), t6⟩
 rcases t3.block A hA with ⟨A0, u1, u2⟩ | u
 ·rw [← u2]; exact (r3 A0 u1).2
 ·exact r2 _ u
theorem Place.ext {w' : World} (h : Rel L st a w R) (hx : ∀ b, L.Z b ∨ (∃ t, L.F t b) → w'.heap[b]? = w.heap[b]?) {g : Nat} {p : Path} {s1 : Sh} {cs1 : List Value} {ad1 : Option Addr} (hp : Place L st w g p s1 cs1 ad1) : Place L st w' g p s1 cs1 ad1 := by
 obtain ⟨k, s, f, x, e1, e2, e3, e4⟩ := hp
 obtain ⟨r1, B, r2, r3, r4⟩ := h.root e1
 exact ⟨k, s, f, x, e1, e2, e3, by rw [sub_frame p r4 e2 (fun b hb => hx b (.inr ⟨g, r2 b hb⟩))]; exact e4⟩
theorem FaRep.ext {w' : World} {Z Z' : Nat → Prop} (hz : ∀ b, Z b → Z' b) (hx : ∀ b, Z b → w'.heap[b]? = w.heap[b]?) {s : Sh} {x : s.ty} {v : Value} (h : FaRep w Z s x v) : FaRep w' Z' s x v := by
 obtain ⟨ad, cs, h1, h2, h3, h4, h5⟩ := h
 refine ⟨ad, cs, h1, h2, hz _ h3, fun j hj => ?_, h5.frame hz (fun b hb => hx b (hb.resolve_right id))⟩
 rw [← h4 j hj]
 exact World.cell?_of_block (by rw [add_block]; exact hx _ h3)
theorem ORep.ext {w' : World} (h : Rel L st a w R) (hx : ∀ b, L.Z b ∨ (∃ t, L.F t b) → w'.heap[b]? = w.heap[b]?) : ∀ {pv : PV} {v : Value}, ORep L st w pv v → ORep L st w' pv v
 | .dead, _, _ => trivial
 | .v agg s x, v, ⟨cs, h1, h2⟩ => ⟨cs, h1, h2.frame (fun _ h => h) (fun b hb => hx b (.inl (hb.resolve_right id)))⟩
 | .emp, v, h1 => h1
 | .h agg g p, v, ⟨s1, cs1, ad1, h1, h2, h3⟩ => ⟨s1, cs1, ad1, h1.ext h hx, h2, h3⟩
 | .adr g p, v, ⟨s1, cs1, A, h1, h2⟩ => ⟨s1, cs1, A, h1.ext h hx, h2⟩
 | .fadr s x, v, h1 => FaRep.ext (Z := L.Z) (fun _ h => h) (fun b hb => hx b (.inl hb)) h1
 | .fn f caps, v, ⟨vs, h1, h2, h3⟩ => ⟨vs, h1, h2, fun i c u hc hu => by
   have := h3 i c u hc hu
   cases c with
   | adr g p => obtain ⟨s1, cs1, A, q1, q2⟩ := this; exact ⟨s1, cs1, A, q1.ext h hx, q2⟩
   | fadr s x => exact FaRep.ext (fun _ h => h) (fun b hb => hx b (.inl hb)) this⟩
 | .root .., _, h1 => h1
theorem RRep.ext {w' : World} {t : Nat} (hx : ∀ b, L.Z b ∨ L.F t b → w'.heap[b]? = w.heap[b]?) {k : RK} {s : Sh} {f : Fl} {x : s.ty} {v : Value} (h1 : RRep L w t k s f x v) : RRep L w' t k s f x v := by
 obtain ⟨r1, B, r2, r3, r4⟩ := h1
 refine ⟨?_, B, r2, r3, r4.frame (fun _ h => h) (fun b hb => hx b (hb.imp id (r2 b)))⟩
 cases k with
 | val agg => exact r1
 | tup aggs => exact r1
 | box t =>
  obtain ⟨b, e1, e2, e3⟩ := r1
  exact ⟨b, e1, (hx b (.inr (r3 _ e3).2)).trans e2, e3⟩
 | ibox t b =>
  obtain ⟨e1, e2, e3⟩ := r1
  exact ⟨e1, (hx b (.inr (r3 _ e3).2)).trans e2, e3⟩
/-- nothing that is told has turned -/
theorem Rel.ext {w' : World} (h : Rel L st a w R) (hsz : w.heap.size ≤ w'.heap.size) (hx : ∀ b, L.Z b ∨ (∃ t, L.F t b) → w'.heap[b]? = w.heap[b]?) : Rel L st a w' R where
 size := h.size
 defers := h.defers
 zlt := ⟨fun b hb => Nat.lt_of_lt_of_le (h.zlt b hb) hsz, h.zlt.gl.step fun b hb => hx b (.inl hb)⟩
 flt := fun t b hb => ⟨Nat.lt_of_lt_of_le (h.flt t b hb).1 hsz, (h.flt t b hb).2⟩
 dj := h.dj
 rlt := fun b hb => ⟨Nat.lt_of_lt_of_le (h.rlt b hb).1 hsz, (h.rlt b hb).2⟩
 rdj := h.rdj
 tmp := fun t ht => by
  have h1 := h.tmp t ht
  rcases PV.root_or (st.at t) with ⟨k, s, f, x, hp⟩ | hp
  ·rw [hp] at h1 ⊢
   exact RRep.ext (fun b hb => hx b (hb.imp id fun q => ⟨t, q⟩)) h1
  ·rw [PVRep.of hp] at h1 ⊢
   exact ORep.ext h hx h1
theorem Rel.grow {w' : World} (h : Rel L st a w R) (hx : Ext w w') : Rel L st a w' R :=
 h.ext hx.size (fun b hb => hx.block b (by rcases hb with hb | ⟨t, hb⟩; exact h.zlt b hb; exact (h.flt t b hb).1))
/-- an operand, its roots named -/
theorem Rel.opnd (h : Rel L st a w R) (x : Operand) : ORep L st w (ref st x) (a.eval x) := by
  cases x with
  | tmp t =>
    show ORep L st w (ref st (.tmp t)) (a.tmps.getD t undef)
    cases hp : st.at t with
    | root k s f x =>
      have e1 : get s f x [] = some ⟨s, f, x⟩ := by cases s <;> rfl
      obtain ⟨r1, B, r2, r3, r4⟩ := h.root hp
      have hP : Place L st w t [] s (L.C t) (L.D t) := ⟨k, s, f, x, hp, by cases s <;> trivial, ⟨f, x, e1⟩, sub_nil _ _ _ _⟩
      cases k with
      | val agg =>
        have : ref st (.tmp t) = .h agg t [] := by simp only [ref, hp]
        rw [this]
        exact ⟨s, _, _, hP, r1.1, r1.2.1⟩
      | box b =>
        have : ref st (.tmp t) = .adr t [] := by simp only [ref, hp]
        rw [this]
        obtain ⟨b, e1, e2, e3⟩ := r1
        exact ⟨s, _, _, e3 ▸ hP, e1⟩
      | ibox t0 b =>
        have : ref st (.tmp t) = .adr t [] := by simp only [ref, hp]
        rw [this]
        obtain ⟨e1, e2, e3⟩ := r1
        exact ⟨s, _, _, e3 ▸ hP, e1⟩
      | tup g =>
        have : ref st (.tmp t) = .dead := by simp only [ref, hp]
        rw [this]; trivial
    | dead => have : ref st (.tmp t) = .dead := by simp only [ref, hp]
              rw [this]; trivial
    | v => have e : ref st (.tmp t) = st.at t := by simp only [ref, hp]
           rw [e]; exact h.orep (by rw [hp]; rfl)
    | emp => have e : ref st (.tmp t) = st.at t := by simp only [ref, hp]
             rw [e]; exact h.orep (by rw [hp]; rfl)
    | h => have e : ref st (.tmp t) = st.at t := by simp only [ref, hp]
           rw [e]; exact h.orep (by rw [hp]; rfl)
    | adr => have e : ref st (.tmp t) = st.at t := by simp only [ref, hp]
             rw [e]; exact h.orep (by rw [hp]; rfl)
    | fadr => have e : ref st (.tmp t) = st.at t := by simp only [ref, hp]
              rw [e]; exact h.orep (by rw [hp]; rfl)
    | fn => have e : ref st (.tmp t) = st.at t := by simp only [ref, hp]
            rw [e]; exact h.orep (by rw [hp]; rfl)
  | const c =>
    show ORep L st w (cvalue c) c
    unfold cvalue
    split
    · exact ⟨[_], rfl, rfl⟩
    · exact ⟨[_], rfl, rfl⟩
    · exact ⟨[_], rfl, rfl⟩
    · exact ⟨none, rfl⟩
    · trivial
  | func f => exact ⟨[], rfl, rfl, fun i c u hc _ => by simp at hc⟩
  | global g => trivial
end
end Go.Proofs.YtoeblmcibheldaaGreatDoor.V
end
section
/- Steps of the state: a slot is set, a place is written, what is own is moved. No condition. -/
namespace Go.Proofs.YtoeblmcibheldaaGreatDoor.V
open Go Go.RowKit
theorem csub_none {w : World} {n : List Value} : ∀ (p : Path) {s : Sh} {cs : List Value} {cs1 : List Value} {A : Addr}, sub w s cs none p = some (cs1, some A) → csub s cs p n = cs := by
 intro p
 induction p with
 | nil => intro s cs cs1 A h; rw [sub_nil] at h; cases (Prod.mk.inj (Option.some.inj h)).2
 | cons st p ih =>
  intro s cs cs1 A h
  cases s with
  | pr a b =>
   cases st with
   | l => simp only [sub] at h; simp only [csub]; rw [ih h, List.take_append_drop]
   | r => simp only [sub, Option.map_none] at h; simp only [csub]; rw [ih h, List.take_append_drop]
   | el i => simp [sub] at h
  | sl e s0 => cases st <;> first | rfl | simp [sub] at h
  | unit => simp [sub] at h
  | int _ => simp [sub] at h
  | bool => simp [sub] at h
  | str => simp [sub] at h
theorem hit_or (g : Nat) (p : Path) (pv : PV) : hit g p pv = .dead ∨ hit g p pv = pv := by
 unfold hit
 split <;> (try split) <;> simp
theorem hitS_or (g : Nat) (p : Path) (pv : PV) : hitS g p pv = .dead ∨ hitS g p pv = pv := by
 unfold hitS
 split <;> (try split) <;> simp
theorem getD_set_eq {a : Array Value} {d : Nat} {v : Value} (t : Nat) : (a.setIfInBounds d v).getD t undef = if t = d ∧ d < a.size then v else a.getD t undef := by
 simp only [Array.getD_eq_getD_getElem?, Array.getElem?_setIfInBounds]
 by_cases h : d = t
 ·subst h
  by_cases hl : d < a.size
  ·simp [hl]
  ·simp [hl]
 ·have h' : ¬ t = d := fun e => h e.symm
  simp [h, h']
section
variable {L : Lay} {st : St} {a : Act} {w : World} {R : Nat → Prop}
theorem Place.set {d : Nat} {pv : PV} (hd : (st.at d).isRoot = false) {g : Nat} {p : Path} {s1 : Sh} {cs1 : List Value} {ad1 : Option Addr} (hp : Place L st w g p s1 cs1 ad1) : Place L (st.set d pv) w g p s1 cs1 ad1 := by
 obtain ⟨k, s, f, x, e1, e2, e3, e4⟩ := hp
 refine ⟨k, s, f, x, ?_, e2, e3, e4⟩
 rw [St.at_set, if_neg (fun h => ?_)]
 ·exact e1
 ·rw [← h.1, e1] at hd; cases hd
/-- what hangs on places that stay hangs on -/
theorem ORep.places {L' : Lay} {st' : St} {w' : World} (hz : ∀ b, L.Z b → L'.Z b) (hw : ∀ b, L.Z b → w'.heap[b]? = w.heap[b]?) {pv : PV} {v : Value}
  (hh : ∀ agg g p, pv = .h agg g p → ∀ s1 cs1 ad1, Place L st w g p s1 cs1 ad1 → mkV agg cs1 v → (agg = false → s1.isSl = true) → ORep L' st' w' (.h agg g p) v)
  (ha : ∀ g p, (pv = .adr g p ∨ ∃ f caps, pv = .fn f caps ∧ Cap.adr g p ∈ caps) → ∀ s1 cs1 A, Place L st w g p s1 cs1 (some A) → ∃ cs2, Place L' st' w' g p s1 cs2 (some A)) (h : ORep L st w pv v) : ORep L' st' w' pv v := by
 cases pv with
 | dead => trivial
 | v agg s x => obtain ⟨cs, h1, h2⟩ := h; exact ⟨cs, h1, h2.frame hz (fun b hb => hw b (hb.resolve_right id))⟩
 | emp => exact h
 | h agg g p => obtain ⟨s1, cs1, ad1, h1, h2, h3⟩ := h; exact hh agg g p rfl s1 cs1 ad1 h1 h2 h3
 | adr g p => obtain ⟨s1, cs1, A, h1, h2⟩ := h; obtain ⟨cs2, h3⟩ := ha g p (.inl rfl) s1 cs1 A h1; exact ⟨s1, cs2, A, h3, h2⟩
 | fadr s x => exact FaRep.ext (Z := L.Z) hz hw h
 | fn f caps =>
  obtain ⟨vs, h1, h2, h3⟩ := h
  refine ⟨vs, h1, h2, fun i c u hc hu => ?_⟩
  have := h3 i c u hc hu
  cases c with
  | adr g p =>
   obtain ⟨s1, cs1, A, q1, q2⟩ := this
   obtain ⟨cs2, h4⟩ := ha g p (.inr ⟨f, caps, rfl, List.mem_of_getElem? hc⟩) s1 cs1 A q1
   exact ⟨s1, cs2, A, h4, q2⟩
  | fadr s x => exact FaRep.ext (Z := L.Z) hz hw this
 | root => exact h
theorem ORep.set {d : Nat} {pv' : PV} (hd : (st.at d).isRoot = false) {pv : PV} {v : Value} (h : ORep L st w pv v) : ORep L (st.set d pv') w pv v :=
 ORep.places (fun _ h => h) (fun _ _ => rfl) (fun agg g p e s1 cs1 ad1 h1 h2 h3 => ⟨s1, cs1, ad1, h1.set hd, h2, h3⟩) (fun g p _ s1 cs1 A h1 => ⟨cs1, h1.set hd⟩) h
/-- a slot is set to what is no root -/
theorem Rel.setO (h : Rel L st a w R) {d : Nat} (hd : (st.at d).isRoot = false) {pv : PV} {v : Value} (hn : pv.isRoot = false) (hp : ORep L st w pv v) : Rel L (st.set d pv) (a.put (some d) v) w R where
 size := by show (a.tmps.setIfInBounds d v).size = _; rw [Array.size_setIfInBounds, List.length_set]; exact h.size
 defers := h.defers
 zlt := h.zlt
 flt := h.flt
 dj := h.dj
 rlt := h.rlt
 rdj := h.rdj
 tmp := fun t ht => by
  rw [List.length_set] at ht
  show PVRep L (st.set d pv) w t (St.at (st.set d pv) t) ((a.tmps.setIfInBounds d v).getD t undef)
  rw [St.at_set, getD_set_eq, h.size]
  by_cases hc : t = d ∧ d < st.length
  ·rw [if_pos hc, if_pos hc, PVRep.of hn]; exact hp.set hd
  ·rw [if_neg hc, if_neg hc]
   have h1 := h.tmp t ht
   rcases PV.root_or (st.at t) with ⟨k, s, f, x, hp'⟩ | hp'
   ·rw [hp'] at h1 ⊢; exact h1
   ·rw [PVRep.of hp'] at h1 ⊢; exact h1.set hd
def Lay.set (L : Lay) (d : Nat) (F : Nat → Prop) (C : List Value) (D : Option Addr) : Lay := ⟨L.Z, fun t => if t = d then F else L.F t, fun t => if t = d then C else L.C t, fun t => if t = d then D else L.D t⟩
/-- a slot is set to a root: its blocks come of what is detached, or are new -/
theorem Rel.setR (h : Rel L st a w R) {d : Nat} (hd : (st.at d).isRoot = false) {k : RK} {s : Sh} {f : Fl} {x : s.ty} {v : Value} {cs : List Value} {ad : Option Addr} {B Fd R' : Nat → Prop}
  (h1 : RootAt w k s v cs ad) (h2 : ∀ b, B b → Fd b) (h3 : ∀ A, ad = some A → ¬ B A.block ∧ Fd A.block) (h4 : Rep w L.Z s f x cs B) (h5 : ∀ b, Fd b → b < w.heap.size ∧ ¬ L.Z b ∧ (∀ t, ¬ L.F t b)) (h6 : ∀ b, R' b → R b ∧ ¬ Fd b) :
  Rel (L.set d Fd cs ad) (st.set d (.root k s f x)) (a.put (some d) v) w R' := by
 have hpl : ∀ {g : Nat} {p : Path} {s1 : Sh} {cs1 : List Value} {ad1 : Option Addr}, Place L st w g p s1 cs1 ad1 → Place (L.set d Fd cs ad) (st.set d (.root k s f x)) w g p s1 cs1 ad1 := by
  intro g p s1 cs1 ad1 hp
  have hg : g ≠ d := by
   obtain ⟨k', s', f', x', e1, _⟩ := hp
   intro e
   rw [← e, e1] at hd; cases hd
  obtain ⟨k', s', f', x', e1, e2, e3, e4⟩ := hp.set (pv := .root k s f x) hd
  refine ⟨k', s', f', x', e1, e2, e3, ?_⟩
  simp only [Lay.set, if_neg hg]
  exact e4
 refine ⟨by show (a.tmps.setIfInBounds d v).size = _; rw [Array.size_setIfInBounds, List.length_set]; exact h.size, h.defers, h.zlt, fun t b hb => ?_, fun t t' b hb hb' => ?_, fun b hb => h.rlt b (h6 b hb).1, fun t b hb hr => ?_, fun t ht => ?_⟩
 ·simp only [Lay.set] at hb
  split at hb
  ·exact ⟨(h5 b hb).1, (h5 b hb).2.1⟩
  ·exact h.flt t b hb
 ·simp only [Lay.set] at hb hb'
  split at hb <;> split at hb'
  ·rename_i e1 e2; rw [e1, e2]
  ·exact absurd hb' ((h5 b hb).2.2 _)
  ·exact absurd hb ((h5 b hb').2.2 _)
  ·exact h.dj t t' b hb hb'
 ·simp only [Lay.set] at hb
  split at hb
  ·exact (h6 b hr).2 hb
  ·exact h.rdj t b hb (h6 b hr).1
 ·rw [List.length_set] at ht
  show PVRep _ _ w t (St.at (st.set d (.root k s f x)) t) ((a.tmps.setIfInBounds d v).getD t undef)
  rw [St.at_set, getD_set_eq, h.size]
  by_cases hc : t = d ∧ d < st.length
  ·rw [if_pos hc, if_pos hc]
   obtain ⟨rfl, _⟩ := hc
   refine ⟨?_, B, ?_, ?_, ?_⟩
   ·simp only [Lay.set, if_true]; exact h1
   ·intro b hb; simp only [Lay.set, if_true]; exact h2 b hb
   ·intro A hA; simp only [Lay.set, if_true] at hA ⊢; exact h3 A hA
   ·simp only [Lay.set, if_true]; exact h4
  ·rw [if_neg hc, if_neg hc]
   have h1 := h.tmp t ht
   have htd : t ≠ d := fun e => hc ⟨e, e ▸ ht⟩
   rcases PV.root_or (st.at t) with ⟨k', s', f', x', hp'⟩ | hp'
   ·rw [hp'] at h1 ⊢
    obtain ⟨r1, B', r2, r3, r4⟩ := h1
    refine ⟨?_, B', ?_, ?_, ?_⟩
    ·simp only [Lay.set, if_neg htd]; exact r1
    ·intro b hb; simp only [Lay.set, if_neg htd]; exact r2 b hb
    ·intro A hA; simp only [Lay.set, if_neg htd] at hA ⊢; exact r3 A hA
    ·simp only [Lay.set, if_neg htd]; exact r4
   ·rw [PVRep.of hp'] at h1 ⊢
    exact ORep.places (L := L) (L' := L.set d Fd cs ad) (st := st) (fun _ h => h) (fun _ _ => rfl) (fun agg g p e s1 cs1 ad1 q1 q2 q3 => ⟨s1, cs1, ad1, hpl q1, q2, q3⟩) (fun g p _ s1 cs1 A q1 => ⟨cs1, hpl q1⟩) h1
/-- a root that nothing hangs on any more is let go; its blocks are detached -/
theorem Rel.gone (h : Rel L st a w R) {g : Nat} {k : RK} {s : Sh} {f : Fl} {x : s.ty} (hg : st.at g = .root k s f x) :
  ∃ B : Nat → Prop, Rel ⟨L.Z, fun t b => if t = g then False else L.F t b, L.C, L.D⟩ ((st.map (drop g)).set g .dead) a w (fun b => R b ∨ L.F g b) ∧ (∀ b, B b → L.F g b) ∧ Rep w L.Z s f x (L.C g) B := by
 obtain ⟨r1, B, r2, r3, r4⟩ := h.root hg
 refine ⟨B, ?_, r2, r4⟩
 have hat : ∀ t, St.at ((st.map (drop g)).set g .dead) t = if t = g then .dead else drop g (st.at t) := by
  intro t
  rw [St.at_set, List.length_map]
  by_cases ht : t = g
  ·rw [if_pos ⟨ht, root_lt hg⟩, if_pos ht]
  ·rw [if_neg (fun h => ht h.1), if_neg ht]
   exact St.at_map (by simp [drop, usesG])
 have hpl : ∀ {g' : Nat} {p : Path} {s1 : Sh} {cs1 : List Value} {ad1 : Option Addr}, g' ≠ g → Place L st w g' p s1 cs1 ad1 → Place ⟨L.Z, fun t b => if t = g then False else L.F t b, L.C, L.D⟩ ((st.map (drop g)).set g .dead) w g' p s1 cs1 ad1 := by
  intro g' p s1 cs1 ad1 hne ⟨k', s', f', x', e1, e2, e3, e4⟩
  refine ⟨k', s', f', x', ?_, e2, e3, e4⟩
  rw [hat, if_neg hne, e1]
  simp [drop, usesG]
 refine ⟨?_, h.defers, h.zlt, fun t b hb => ?_, fun t t' b hb hb' => ?_, fun b hb => ?_, fun t b hb hr => ?_, fun t ht => ?_⟩
 ·rw [h.size, List.length_set, List.length_map]
 ·simp only at hb
  split at hb
  ·exact hb.elim
  ·exact h.flt t b hb
 ·simp only at hb hb'
  split at hb
  ·exact hb.elim
  ·split at hb'
   ·exact hb'.elim
   ·exact h.dj t t' b hb hb'
 ·rcases hb with hb | hb
  ·exact h.rlt b hb
  ·exact h.flt g b hb
 ·simp only at hb
  split at hb
  ·exact hb.elim
  ·rename_i hne
   rcases hr with hr | hr
   ·exact h.rdj t b hb hr
   ·exact hne (h.dj t g b hb hr)
 ·rw [List.length_set, List.length_map] at ht
  rw [hat]
  by_cases htg : t = g
  ·rw [if_pos htg]; trivial
  ·rw [if_neg htg]
   have h1 := h.tmp t ht
   rcases PV.root_or (st.at t) with ⟨k', s', f', x', hp'⟩ | hp'
   ·rw [hp'] at h1 ⊢
    have e : drop g (.root k' s' f' x') = .root k' s' f' x' := by simp [drop, usesG]
    rw [e]
    obtain ⟨q1, B', q2, q3, q4⟩ := h1
    refine ⟨q1, B', fun b hb => ?_, fun A hA => ⟨(q3 A hA).1, ?_⟩, q4⟩
    ·simp only [if_neg htg]; exact q2 b hb
    ·simp only [if_neg htg]; exact (q3 A hA).2
   ·rw [PVRep.of hp'] at h1
    unfold drop
    by_cases hu : usesG g (st.at t) = true
    ·rw [if_pos hu]; trivial
    ·rw [if_neg hu, PVRep.of hp']
     refine ORep.places (L' := ⟨L.Z, fun t b => if t = g then False else L.F t b, L.C, L.D⟩) (fun _ h => h) (fun _ _ => rfl) (fun agg g' p e s1 cs1 ad1 q1 q2 q3 => ?_) (fun g' p e s1 cs1 A q1 => ?_) h1
     ·refine ⟨s1, cs1, ad1, hpl (fun e' => hu ?_) q1, q2, q3⟩
      rw [e]; simp [usesG, e']
     ·refine ⟨cs1, hpl (fun e' => hu ?_) q1⟩
      rcases e with e | ⟨f', caps, e, hm⟩
      ·rw [e]; simp [usesG, e']
      ·rw [e]
       simp only [usesG, List.any_eq_true]
       exact ⟨_, hm, by simp [capUses, e']⟩
/-- A PLACE IS WRITTEN, or marked anew. -/
theorem Rel.put (h : Rel L st a w R) {g : Nat} {k : RK} {s : Sh} {f : Fl} {x : s.ty} (hg : st.at g = .root k s f x) {p : Path} {s1 : Sh} {cs1 : List Value} {ad1 : Option Addr} (hP : Place L st w g p s1 cs1 ad1) :
  ∃ f1 x1, get s f x p = some ⟨s1, f1, x1⟩ ∧ ∃ B1 : Nat → Prop, (∀ b, B1 b → L.F g b) ∧ Rep w L.Z s1 f1 x1 cs1 B1 ∧ At w ad1 cs1 ∧ (∀ A, ad1 = some A → L.F g A.block ∧ ¬ B1 A.block) ∧
   ∀ (w' : World) (n : List Value) (f2 : Fl) (x2 : s1.ty) (B2 R' : Nat → Prop) (f' : Fl) (x' : s.ty) (kill : Nat → Path → PV → PV), Chg w w' ad1 cs1 n → w'.heap.size = w.heap.size → Rep w' L.Z s1 f2 x2 n B2 →
    (∀ b, B2 b → R b ∨ B1 b) → (∀ b, R' b → (R b ∨ B1 b) ∧ ¬ B2 b) → upd s1 f2 x2 s f x p = some (f', x') → (kill = hit ∨ (kill = hitS ∧ n = cs1)) →
    Rel ⟨L.Z, fun t b => if t = g then (L.F g b ∧ ¬ B1 b) ∨ B2 b else L.F t b, fun t => if t = g then csub s (L.C g) p n else L.C t, L.D⟩ ((st.map (kill g p)).set g (.root k s f' x')) a w' R' := by
 obtain ⟨k0, s0, f0, x0, e1, e2, ⟨f1, x1, e3⟩, e4⟩ := hP
 rw [hg] at e1
 injection e1 with i1 i2 i3 i4
 subst i1; subst i2; subst i3
 obtain rfl := eq_of_heq i4
 obtain ⟨r1, B, r2, r3, r4⟩ := h.root hg
 have hNB : ∀ A, L.D g = some A → ¬ B A.block := fun A hA => (r3 A hA).1
 obtain ⟨cs1', ad1', B1, t1, t2, t3, t4, t5, t6, t7⟩ := lens p r4 r1.at_ hNB e2 e3
 have hs := e4
 rw [t1] at hs
 obtain ⟨rfl, rfl⟩ := Prod.mk.inj (Option.some.inj hs)
 have hAF : ∀ A, ad1' = some A → L.F g A.block ∧ ¬ B1 A.block := fun A hA => by
  refine ⟨?_, t5 A hA⟩
  rcases t3.block A hA with ⟨A0, u1, u2⟩ | u
  ·rw [← u2]; exact (r3 A0 u1).2
  ·exact r2 _ u
 refine ⟨f1, x1, e3, B1, fun b hb => r2 b (t4 b hb), t6, t2, hAF, ?_⟩
 intro w' n f2 x2 B2 R' f' x' kill hC hsz hR2 hB2 hR' hu hk
 have hn : n.length = cs1'.length := hR2.len.trans t6.len.symm
 have hZ : ∀ A, ad1' = some A → w' ≠ w → ¬ L.Z A.block := fun A hA _ => (h.flt g _ (hAF A hA).1).2
 have hBx : ∀ b, B2 b → ¬ (L.F g b ∧ ¬ B1 b) := fun b hb hh => by
  rcases hB2 b hb with hr | hr
  ·exact h.rdj g b hh.1 hr
  ·exact hh.2 hr
 obtain ⟨v1, v2⟩ := t7 w' n f2 x2 B2 f' x' hC hZ (fun b hb hh => hBx b hb ⟨r2 b hh.1, hh.2⟩) (fun A hA hb => hBx _ hb ⟨(r3 A hA).2, fun hb1 => hNB A hA (t4 _ hb1)⟩) (fun A hA hb => hBx _ hb (hAF A hA)) hR2 hu
 -- the blocks that are not written
 have hoth : ∀ b, ¬ L.F g b → w'.heap[b]? = w.heap[b]? := fun b hb => hC.other b (fun A hA e => hb (e ▸ (hAF A hA).1))
 have hzo : ∀ b, L.Z b → w'.heap[b]? = w.heap[b]? := fun b hb => hoth b (fun hf => (h.flt g b hf).2 hb)
 have hat : ∀ t, St.at ((st.map (kill g p)).set g (.root k s f' x')) t = if t = g then .root k s f' x' else kill g p (st.at t) := by
  intro t
  rw [St.at_set, List.length_map]
  by_cases ht : t = g
  ·rw [if_pos ⟨ht, root_lt hg⟩, if_pos ht]
  ·rw [if_neg (fun h => ht h.1), if_neg ht]
   refine St.at_map ?_
   rcases hk with rfl | ⟨rfl, _⟩ <;> rfl
 have hkr : ∀ k0 s0 f0 x0, kill g p (.root k0 s0 f0 x0) = .root k0 s0 f0 x0 := by
  intro k0 s0 f0 x0
  rcases hk with rfl | ⟨rfl, _⟩ <;> rfl
 -- places that stay
 have hpo : ∀ {g' : Nat} {q : Path} {s3 : Sh} {cs3 : List Value} {ad3 : Option Addr}, g' ≠ g → Place L st w g' q s3 cs3 ad3 → Place ⟨L.Z, fun t b => if t = g then (L.F g b ∧ ¬ B1 b) ∨ B2 b else L.F t b, fun t => if t = g then csub s (L.C g) p n else L.C t, L.D⟩ ((st.map (kill g p)).set g (.root k s f' x')) w' g' q s3 cs3 ad3 := by
  intro g' q s3 cs3 ad3 hne ⟨k', s', f'', x'', u1, u2, u3, u4⟩
  refine ⟨k', s', f'', x'', by rw [hat, if_neg hne, u1, hkr], u2, u3, ?_⟩
  simp only [if_neg hne]
  obtain ⟨_, B', y2, y3, y4⟩ := h.root u1
  rw [sub_frame q y4 u2 (fun b hb => hoth b (fun hf => hne (h.dj g' g b (y2 b hb) hf)))]
  exact u4
 have hpg : ∀ {q : Path} {s3 : Sh} {cs3 : List Value} {ad3 : Option Addr}, below p q = false → Place L st w g q s3 cs3 ad3 → ∃ cs4, Place ⟨L.Z, fun t b => if t = g then (L.F g b ∧ ¬ B1 b) ∨ B2 b else L.F t b, fun t => if t = g then csub s (L.C g) p n else L.C t, L.D⟩ ((st.map (kill g p)).set g (.root k s f' x')) w' g q s3 cs4 ad3 ∧ (Path.pre p q = false ∨ n = cs1' → s3.isSl = true → cs4 = cs3) := by
  intro q s3 cs3 ad3 hb ⟨k', s', f'', x'', u1, u2, ⟨f3, x3, u3⟩, u4⟩
  rw [hg] at u1
  injection u1 with i1 i2 i3 i4
  subst i1; subst i2; subst i3
  obtain rfl := eq_of_heq i4
  obtain ⟨w1, f4, x4, w2⟩ := upd_other p q hu hb u2 u3
  obtain ⟨cs4, z1, z2⟩ := lens_q p q r4 r1.at_ hNB e2 e3 t1 hC hn hb u2 u3 u4
  refine ⟨cs4, ⟨k, s, f', x', by rw [hat, if_pos rfl], w1, ⟨f4, x4, w2⟩, ?_⟩, ?_⟩
  ·simp only [if_true]; exact z1
  ·rintro (hq | hq) hsl
   ·exact z2 hq hsl
   ·by_cases hpq : Path.pre p q = true
    ·-- q is p: its cells are n
     have hqp : Path.pre q p = true := by
      simp only [below, hpq, Bool.true_and, Bool.not_eq_false'] at hb; exact hb
     have hpqe : p = q := by
      have aux : ∀ p q : Path, Path.pre p q = true → Path.pre q p = true → p = q := by
       intro p
       induction p with
       | nil => intro q _ h2; exact (pre_nil q h2).symm
       | cons a p ih =>
        intro q h1 h2
        cases q with
        | nil => simp [Path.pre] at h1
        | cons b q =>
         simp only [Path.pre, Bool.and_eq_true, beq_iff_eq] at h1 h2
         rw [h1.1, ih q h1.2 h2.2]
      exact aux p q hpq hqp
     subst hpqe
     rw [t1] at u4
     obtain ⟨rfl, rfl⟩ := Prod.mk.inj (Option.some.inj u4)
     subst hq
     rw [csub_self p t1] at z1
     have v1' := v1
     have v2' := v2
     rw [csub_self p t1] at v1' v2'
     rcases hC with ⟨rfl, _⟩ | ⟨A, y1, y2, y3, y4⟩
     ·rw [t1] at z1; exact (Prod.mk.inj (Option.some.inj z1)).1.symm
     ·obtain ⟨g1, g2⟩ : At w' ad1' cs4 ∧ cs4.length = n.length := by
       obtain ⟨c, d, Bq, m1, m2, m3, m4, m5, m6, _⟩ := lens p v1' v2' (fun A0 hA0 hb => by
        rcases hb with hb | hb
        ·exact hNB A0 hA0 hb.1
        ·exact hBx _ hb ⟨(r3 A0 hA0).2, fun hb1 => hNB A0 hA0 (t4 _ hb1)⟩) w1 w2
       rw [z1] at m1
       obtain ⟨rfl, rfl⟩ := Prod.mk.inj (Option.some.inj m1)
       have es : s1 = s3 := congrArg Sigma.fst (Option.some.inj (e3.symm.trans u3))
       exact ⟨m2, by rw [m6.len, t6.len, es]⟩
      -- both are what lies at A, which the write left as it was
      apply List.ext_getElem?
      intro j
      by_cases hj : j < cs4.length
      ·rw [← g1 A y1 j hj]
       have c0 := t2 A y1 j (by omega)
       rw [List.getElem?_eq_getElem (by omega)] at c0
       obtain ⟨_, cur, e, fr, hcu⟩ := cell_some c0
       rw [add_block] at hcu
       rw [cell_at y2 (y4.here _ _ _ hcu)]
       have hbd : A.off + n.length ≤ cur.size := by
        have c1 := t2 A y1 (n.length - 1) (by omega)
        rw [cell_at y2 hcu, List.getElem?_eq_getElem (by omega)] at c1
        have := (Array.getElem?_eq_some_iff.1 c1).1
        omega
       exact wrArr_in n cur A.off j hbd (by omega)
      ·rw [List.getElem?_eq_none (by omega), List.getElem?_eq_none (by omega)]
    ·exact z2 (by simpa using hpq) hsl
 refine ⟨by rw [h.size, List.length_set, List.length_map], h.defers, ⟨fun b hb => by rw [hsz]; exact h.zlt b hb, h.zlt.gl.step hzo⟩, fun t b hb => ?_, fun t t' b hb hb' => ?_, fun b hb => ?_, fun t b hb hr => ?_, fun t ht => ?_⟩
 ·simp only at hb
  rw [hsz]
  split at hb
  ·rcases hb with hb | hb
   ·exact h.flt g b hb.1
   ·rcases hB2 b hb with hr | hr
    ·exact h.rlt b hr
    ·exact h.flt g b (r2 b (t4 b hr))
  ·exact h.flt t b hb
 ·have key : ∀ b, (L.F g b ∧ ¬ B1 b) ∨ B2 b → ∀ t, t ≠ g → ¬ L.F t b := by
   intro b hb t hne ht'
   rcases hb with hb | hb
   ·exact hne (h.dj t g b ht' hb.1)
   ·rcases hB2 b hb with hr | hr
    ·exact h.rdj t b ht' hr
    ·exact hne (h.dj t g b ht' (r2 b (t4 b hr)))
  simp only at hb hb'
  split at hb <;> split at hb'
  ·rename_i q1 q2; rw [q1, q2]
  ·rename_i q1 q2; exact absurd hb' (key b hb t' q2)
  ·rename_i q1 q2; exact absurd hb (key b hb' t q1)
  ·exact h.dj t t' b hb hb'
 ·rw [hsz]
  rcases (hR' b hb).1 with hr | hr
  ·exact h.rlt b hr
  ·exact h.flt g b (r2 b (t4 b hr))
 ·simp only at hb
  obtain ⟨q1, q2⟩ := hR' b hr
  split at hb
  ·rcases hb with hb | hb
   ·rcases q1 with q1 | q1
    ·exact h.rdj g b hb.1 q1
    ·exact hb.2 q1
   ·exact q2 hb
  ·rename_i hne
   rcases q1 with q1 | q1
   ·exact h.rdj t b hb q1
   ·exact hne (h.dj t g b hb (r2 b (t4 b q1)))
 ·rw [List.length_set, List.length_map] at ht
  rw [hat]
  by_cases htg : t = g
  ·rw [if_pos htg]
   subst htg
   refine ⟨?_, fun b => (B b ∧ ¬ B1 b) ∨ B2 b, fun b hb => ?_, fun A hA => ⟨fun hb => ?_, ?_⟩, ?_⟩
   ·-- the root's own cells
    simp only [if_true]
    cases k with
    | val agg =>
     obtain ⟨m1, m2, m3⟩ := r1
     rw [m3] at t1
     have : csub s (L.C t) p n = L.C t := by
      cases ad1' with
      | none =>
       rcases hC with ⟨_, rfl⟩ | ⟨A, y1, _⟩
       ·exact csub_self p t1
       ·cases y1
      | some A => exact csub_none p t1
     exact ⟨by rw [this]; exact m1, m2, m3⟩
    | tup aggs =>
     obtain ⟨m1, m2, m3⟩ := r1
     rw [m3] at t1
     have : csub s (L.C t) p n = L.C t := by
      cases ad1' with
      | none =>
       rcases hC with ⟨_, rfl⟩ | ⟨A, y1, _⟩
       ·exact csub_self p t1
       ·cases y1
      | some A => exact csub_none p t1
     exact ⟨by rw [this]; exact m1, m2, m3⟩
    | box bt =>
     obtain ⟨b, m1, m2, m3⟩ := r1
     refine ⟨b, m1, ?_, m3⟩
     have hln := csub_len p t1 hn
     obtain ⟨cur', c1, c2⟩ : ∃ cur', w'.heap[b]? = some (.cells cur' bt (0, 0)) ∧ cur'.size = (L.C t).length := by
      rcases hC with ⟨rfl, _⟩ | ⟨A, y1, y2, y3, y4⟩
      ·exact ⟨_, m2, by simp⟩
      ·by_cases hbk : A.block = b
       ·exact ⟨_, hbk ▸ y4.here _ _ _ (hbk ▸ m2), by rw [wrArr_size]; simp⟩
       ·exact ⟨_, (y4.other b (fun h => hbk h.symm)).trans m2, by simp⟩
     rw [c1]
     congr 2
     apply Array.ext_getElem?
     intro j
     by_cases hj : j < (L.C t).length
     ·have := v2 _ m3 j (by omega)
      rw [cell_row c1] at this
      rw [this]; simp
     ·rw [Array.getElem?_eq_none (by omega), Array.getElem?_eq_none (by simp; omega)]
    | ibox bt b =>
     obtain ⟨m1, m2, m3⟩ := r1
     refine ⟨m1, ?_, m3⟩
     have hln := csub_len p t1 hn
     obtain ⟨cur', c1, c2⟩ : ∃ cur', w'.heap[b]? = some (.cells cur' bt (0, 0)) ∧ cur'.size = (L.C t).length := by
      rcases hC with ⟨rfl, _⟩ | ⟨A, y1, y2, y3, y4⟩
      ·exact ⟨_, m2, by simp⟩
      ·by_cases hbk : A.block = b
       ·exact ⟨_, hbk ▸ y4.here _ _ _ (hbk ▸ m2), by rw [wrArr_size]; simp⟩
       ·exact ⟨_, (y4.other b (fun h => hbk h.symm)).trans m2, by simp⟩
     rw [c1]
     congr 2
     apply Array.ext_getElem?
     intro j
     by_cases hj : j < (L.C t).length
     ·have := v2 _ m3 j (by omega)
      rw [cell_row c1] at this
      rw [this]; simp
     ·rw [Array.getElem?_eq_none (by omega), Array.getElem?_eq_none (by simp; omega)]
   ·simp only [if_true]
    rcases hb with hb | hb
    ·exact .inl ⟨r2 b hb.1, hb.2⟩
    ·exact .inr hb
   ·rcases hb with hb | hb
    ·exact hNB A hA hb.1
    ·exact hBx _ hb ⟨(r3 A hA).2, fun hb1 => hNB A hA (t4 _ hb1)⟩
   ·simp only [if_true]
    exact .inl ⟨(r3 A hA).2, fun hb1 => hNB A hA (t4 _ hb1)⟩
   ·simp only [if_true]; exact v1
  ·rw [if_neg htg]
   have h1 := h.tmp t ht
   rcases PV.root_or (st.at t) with ⟨k', s', f'', x'', hp'⟩ | hp'
   ·rw [hp', hkr]
    rw [hp'] at h1
    have h2 : RRep L w' t k' s' f'' x'' (a.tmps.getD t undef) := RRep.ext (fun b hb => hoth b (fun hf => by
     rcases hb with hb | hb
     ·exact (h.flt g b hf).2 hb
     ·exact htg (h.dj t g b hb hf))) h1
    obtain ⟨q1, B', q2, q3, q4⟩ := h2
    refine ⟨?_, B', fun b hb => ?_, fun A hA => ⟨(q3 A hA).1, ?_⟩, ?_⟩
    ·simp only [if_neg htg]; exact q1
    ·simp only [if_neg htg]; exact q2 b hb
    ·simp only [if_neg htg]; exact (q3 A hA).2
    ·simp only [if_neg htg]; exact q4
   ·rw [PVRep.of hp'] at h1
    have hsame : kill g p (st.at t) = .dead ∨ kill g p (st.at t) = st.at t := by
     rcases hk with rfl | ⟨rfl, _⟩
     ·exact hit_or _ _ _
     ·exact hitS_or _ _ _
    have hkn : (kill g p (st.at t)).isRoot = false := by
     rcases hsame with he | he
     ·rw [he]; rfl
     ·rw [he]; exact hp'
    rw [PVRep.of hkn]
    rcases hsame with he | he
    ·rw [he]; trivial
    ·rw [he]
     refine ORep.places (L := L) (st := st) (L' := ⟨L.Z, fun t b => if t = g then (L.F g b ∧ ¬ B1 b) ∨ B2 b else L.F t b, fun t => if t = g then csub s (L.C g) p n else L.C t, L.D⟩) (fun _ h => h) hzo (fun agg g' q e s3 cs3 ad3 q1 q2 q3 => ?_) (fun g' q e s3 cs3 A q1 => ?_) h1
     ·by_cases hgg : g' = g
      ·subst hgg
       rw [e] at he
       rcases hk with rfl | ⟨rfl, hnc⟩
       ·simp only [hit, beq_self_eq_true, Bool.true_and] at he
        by_cases hc : (agg || Path.pre p q) = true
        ·rw [if_pos hc] at he; cases he
        ·simp only [Bool.or_eq_true, not_or, Bool.not_eq_true] at hc
         obtain ⟨cs4, z1, z2⟩ := hpg (by simp [below, hc.2]) q1
         refine ⟨s3, cs4, ad3, z1, ?_, q3⟩
         rw [z2 (.inl hc.2) (q3 hc.1)]; exact q2
       ·simp only [hitS, beq_self_eq_true, Bool.true_and] at he
        by_cases hc : (agg || below p q) = true
        ·rw [if_pos hc] at he; cases he
        ·simp only [Bool.or_eq_true, not_or, Bool.not_eq_true] at hc
         obtain ⟨cs4, z1, z2⟩ := hpg hc.2 q1
         refine ⟨s3, cs4, ad3, z1, ?_, q3⟩
         rw [z2 (.inr hnc) (q3 hc.1)]; exact q2
      ·exact ⟨s3, cs3, ad3, hpo hgg q1, q2, q3⟩
     ·by_cases hgg : g' = g
      ·subst hgg
       have hbl : below p q = false := by
        rcases e with e | ⟨f', caps, e, hm⟩
        ·rw [e] at he
         rcases hk with rfl | ⟨rfl, _⟩ <;> (simp only [hit, hitS, beq_self_eq_true, Bool.true_and] at he; by_cases hc : below p q = true; rw [if_pos hc] at he; cases he; simpa using hc)
        ·rw [e] at he
         rcases hk with rfl | ⟨rfl, _⟩ <;> (simp only [hit, hitS] at he; by_cases hc : (caps.any (capBelow g' p)) = true; rw [if_pos hc] at he; cases he; (simp only [List.any_eq_true, not_exists, not_and, Bool.not_eq_true] at hc; have := hc _ hm; simpa [capBelow] using this))
       obtain ⟨cs4, z1, _⟩ := hpg hbl q1
       exact ⟨cs4, z1⟩
      ·exact ⟨cs3, hpo hgg q1⟩
end
end Go.Proofs.YtoeblmcibheldaaGreatDoor.V
end
section
/- What is moved, what a new owner takes; loads and stores as the machine does them; the table of types. No condition. -/
namespace Go.Proofs.YtoeblmcibheldaaGreatDoor.V
open Go Go.RowKit
theorem get_nil (s : Sh) (f : Fl) (x : s.ty) : get s f x [] = some ⟨s, f, x⟩ := by cases s <;> rfl
section
variable {L : Lay} {st : St} {a : Act} {w : World} {R : Nat → Prop}
/-- what a step may turn -/
structure Sub (L' L : Lay) : Prop where
 Z : L'.Z = L.Z
 F : ∀ t b, L'.F t b → ∃ t', L.F t' b
theorem Sub.refl (L : Lay) : Sub L L := ⟨rfl, fun t b h => ⟨t, h⟩⟩
theorem Sub.trans {A B C : Lay} (h : Sub A B) (k : Sub B C) : Sub A C := ⟨h.Z.trans k.Z, fun t b hb => by obtain ⟨t', h'⟩ := h.F t b hb; exact k.F t' b h'⟩
theorem Rel.take (h : Rel L st a w R) {g : Nat} {p : Path} {s : Sh} {f : Fl} {x : s.ty} {st' : St} (ht : take st g p = some (⟨s, f, x⟩, st')) {s1 : Sh} {cs1 : List Value} {ad1 : Option Addr} (hp : Place L st w g p s1 cs1 ad1) :
  ∃ L' B1, Sub L' L ∧ Rel L' st' a w (fun b => R b ∨ B1 b) ∧ (∀ b, B1 b → ¬ R b ∧ ∃ t, L.F t b) ∧ Rep w L.Z s f x cs1 B1 ∧ st'.length = st.length := by
 obtain ⟨k, s0, f0, x0, hg⟩ : ∃ k s0 f0 x0, st.at g = .root k s0 f0 x0 := by obtain ⟨k, s0, f0, x0, e, _⟩ := hp; exact ⟨k, s0, f0, x0, e⟩
 -- a part is marked junk
 have part : ∀ (s2 : Sh) (f2 : Fl) (x2 : s2.ty) (st2 : St), get s0 f0 x0 p = some ⟨s2, f2, x2⟩ → V.put st g p s2 .junk x2 hit = some st2 → ∃ L' B1, Sub L' L ∧ Rel L' st2 a w (fun b => R b ∨ B1 b) ∧ (∀ b, B1 b → ¬ R b ∧ ∃ t, L.F t b) ∧ Rep w L.Z s2 f2 x2 cs1 B1 ∧ st2.length = st.length := by
  intro s2 f2 x2 st2 h1 h2
  obtain ⟨f1, x1, e1, B1, e2, e3, e4, e5, e6⟩ := h.put hg hp
  rw [h1] at e1
  have hss : s2 = s1 := congrArg Sigma.fst (Option.some.inj e1)
  subst hss
  have := Option.some.inj e1
  simp only [Sigma.mk.injEq, heq_eq_eq, true_and] at this
  obtain ⟨rfl, rfl⟩ := Prod.mk.inj this
  unfold V.put at h2
  rw [hg] at h2
  simp only at h2
  split at h2
  ·rename_i f3 x3 hu
   obtain rfl := Option.some.inj h2
   refine ⟨⟨L.Z, fun t b => if t = g then (L.F g b ∧ ¬ B1 b) ∨ False else L.F t b, fun t => if t = g then csub s0 (L.C g) p cs1 else L.C t, L.D⟩, B1, ⟨rfl, fun t b hb => ?_⟩, e6 w cs1 .junk x2 (fun _ => False) (fun b => R b ∨ B1 b) f3 x3 hit (.inl ⟨rfl, rfl⟩) rfl e3.tojunk (fun _ h => h.elim) (fun b hb => ⟨hb, id⟩) hu (.inl rfl), fun b hb => ⟨h.rdj g b (e2 b hb), g, e2 b hb⟩, e3, by rw [List.length_set, List.length_map]⟩
   simp only at hb
   split at hb
   ·rcases hb with hb | hb
    ·exact ⟨g, hb.1⟩
    ·exact hb.elim
   ·exact ⟨t, hb⟩
  ·cases h2
 unfold V.take at ht
 rw [hg] at ht
 have aux : (match get s0 f0 x0 p with
   | some ⟨s1, f1, x1⟩ => match V.put st g p s1 .junk x1 hit with
    | some st' => some ((⟨s1, f1, x1⟩ : (s : Sh) × Fl × s.ty), st')
    | none => none
   | none => none) = some (⟨s, f, x⟩, st') → ∃ L' B1, Sub L' L ∧ Rel L' st' a w (fun b => R b ∨ B1 b) ∧ (∀ b, B1 b → ¬ R b ∧ ∃ t, L.F t b) ∧ Rep w L.Z s f x cs1 B1 ∧ st'.length = st.length := by
  intro ht
  split at ht
  ·rename_i s2 f2 x2 h1
   split at ht
   ·rename_i st2 h2
    have := Option.some.inj ht
    obtain ⟨e1, rfl⟩ := Prod.mk.inj this
    simp only [Sigma.mk.injEq] at e1
    obtain ⟨rfl, e1⟩ := e1
    obtain ⟨rfl, rfl⟩ := Prod.mk.inj (eq_of_heq e1)
    exact part _ _ _ _ h1 h2
   ·cases ht
  ·cases ht
 cases k with
 | val agg =>
  simp only at ht
  cases p with
  | nil =>
   simp only at ht
   have := Option.some.inj ht
   obtain ⟨e1, rfl⟩ := Prod.mk.inj this
   simp only [Sigma.mk.injEq] at e1
   obtain ⟨rfl, e1⟩ := e1
   obtain ⟨rfl, rfl⟩ := Prod.mk.inj (eq_of_heq e1)
   obtain ⟨B, g1, g2, g3⟩ := h.gone hg
   obtain ⟨k', s', f', x', u1, u2, u3, u4⟩ := hp
   rw [hg] at u1
   injection u1 with i1 i2 i3 i4
   subst i2
   rw [sub_nil] at u4
   obtain ⟨rfl, rfl⟩ := Prod.mk.inj (Option.some.inj u4)
   refine ⟨⟨L.Z, fun t b => if t = g then False else L.F t b, L.C, L.D⟩, L.F g, ⟨rfl, fun t b hb => ?_⟩, g1, fun b hb => ⟨h.rdj g b hb, g, hb⟩, g3.mono g2, by rw [List.length_set, List.length_map]⟩
   simp only at hb
   split at hb
   ·exact hb.elim
   ·exact ⟨t, hb⟩
  | cons a p => exact aux ht
 | box t => exact aux ht
 | ibox t b => exact aux ht
 | tup t => exact aux ht
theorem castTo_some {s' s : Sh} {x : s'.ty} {y : s.ty} (h : castTo s' s x = some y) : ∃ e : s' = s, e ▸ x = y := by
 unfold castTo at h
 split at h
 ·rename_i e; exact ⟨e, Option.some.inj h⟩
 ·cases h
theorem Rel.grab (h : Rel L st a w R) {agg : Bool} {s : Sh} {pv : PV} {v : Value} {f : Fl} {x : s.ty} {st' : St} (hv : ORep L st w pv v) (hg : grab st agg s pv = some (f, x, st')) :
  ∃ L' B1 cs, Sub L' L ∧ Rel L' st' a w (fun b => R b ∨ B1 b) ∧ (∀ b, B1 b → ¬ R b ∧ ∃ t, L.F t b) ∧ mkV agg cs v ∧ Rep w L.Z s f x cs B1 ∧ st'.length = st.length ∧ (pv.isH = false → st' = st) := by
 have hR0 : Rel L st a w (fun b => R b ∨ False) := ⟨h.size, h.defers, h.zlt, h.flt, h.dj, fun b hb => h.rlt b (hb.resolve_right id), fun t b hb hr => h.rdj t b hb (hr.resolve_right id), h.tmp⟩
 cases pv with
 | v agg' s' y =>
  simp only [V.grab] at hg
  split at hg
  ·rename_i he
   subst he
   split at hg
   ·rename_i y' hc
    obtain ⟨rfl, hy⟩ := castTo_some hc
    simp only at hy
    subst hy
    obtain ⟨rfl, e2⟩ := Prod.mk.inj (Option.some.inj hg)
    obtain ⟨rfl, rfl⟩ := Prod.mk.inj e2
    obtain ⟨cs, h1, h2⟩ := hv
    exact ⟨L, fun _ => False, cs, Sub.refl L, hR0, fun _ h => h.elim, h1, h2, rfl, fun _ => rfl⟩
   ·cases hg
  ·cases hg
 | emp =>
  simp only [V.grab] at hg
  split at hg
  ·rename_i he
   obtain ⟨rfl, e2⟩ := Prod.mk.inj (Option.some.inj hg)
   obtain ⟨rfl, rfl⟩ := Prod.mk.inj e2
   obtain ⟨A, rfl⟩ := hv
   obtain ⟨rfl, hs⟩ := he
   cases s with
   | sl e s0 => exact ⟨L, fun _ => False, [.slice A 0 0], Sub.refl L, hR0, fun _ h => h.elim, rfl, .inl ⟨A, rfl, rfl⟩, rfl, fun _ => rfl⟩
   | unit => cases hs
   | int _ => cases hs
   | bool => cases hs
   | str => cases hs
   | pr _ _ => cases hs
  ·cases hg
 | h agg' g p =>
  simp only [V.grab] at hg
  split at hg
  ·rename_i he
   subst he
   split at hg
   ·rename_i s' f' x' st2 ht
    split at hg
    ·rename_i y hc
     obtain ⟨rfl, hy⟩ := castTo_some hc
     simp only at hy
     subst hy
     obtain ⟨rfl, e2⟩ := Prod.mk.inj (Option.some.inj hg)
     obtain ⟨rfl, rfl⟩ := Prod.mk.inj e2
     obtain ⟨s1, cs1, ad1, h1, h2, h3⟩ := hv
     obtain ⟨L', B1, g1, g2, g3, g4, g5⟩ := h.take ht h1
     exact ⟨L', B1, cs1, g1, g2, g3, h2, g4, g5, fun e => by cases e⟩
    ·cases hg
   ·cases hg
  ·cases hg
 | dead => simp [V.grab] at hg
 | adr => simp [V.grab] at hg
 | fadr => simp [V.grab] at hg
 | root => simp [V.grab] at hg
 | fn => simp [V.grab] at hg
end
/-- a place in memory lies in a block of plain cells -/
theorem sub_fr {w : World} {Z : Nat → Prop} : ∀ (p : Path) {s : Sh} {f : Fl} {x : s.ty} {cs : List Value} {ad : Option Addr} {B : Nat → Prop}, Rep w Z s f x cs B → Ok s f x p → ∀ {cs1 : List Value} {ad1 : Option Addr}, sub w s cs ad p = some (cs1, ad1) →
  ∀ A, ad1 = some A → (∃ A0, ad = some A0 ∧ A0.block = A.block) ∨ ∃ cur e, w.heap[A.block]? = some (.cells cur e (0, 0)) := by
 intro p
 induction p with
 | nil =>
  intro s f x cs ad B _ _ cs1 ad1 h A hA
  rw [sub_nil] at h
  obtain ⟨_, rfl⟩ := Prod.mk.inj (Option.some.inj h)
  exact .inl ⟨A, hA, rfl⟩
 | cons st p ih =>
  intro s f x cs ad B hR hOk cs1 ad1 h A hA
  cases s with
  | pr a b =>
   obtain ⟨c1, c2, B1, B2, rfl, k1, k2, k3, k4, k5⟩ := hR
   cases st with
   | l => simp only [sub] at h; rw [List.take_left' k4.len] at h; exact ih k4 hOk h A hA
   | r =>
    simp only [sub] at h; rw [List.drop_left' k4.len] at h
    rcases ih k5 hOk h A hA with ⟨A0, e1, e2⟩ | h
    ·obtain ⟨A1, e3, e4⟩ := Option.map_eq_some_iff.1 e1
     exact .inl ⟨A1, e3, by rw [← e2, ← e4, add_block]⟩
    ·exact .inr h
   | el i => simp [Ok] at hOk
  | sl e s0 =>
   cases st with
   | el i =>
    obtain ⟨hf, hi, hOk'⟩ := hOk
    have aux : ∀ f0 : Fl, Ok s0 f0 (x.getD i s0.zero) p → OwnR w e s0.size (fun x c B' => Rep w Z s0 f0 x c B') s0.zero x cs B → (∃ A0, ad = some A0 ∧ A0.block = A.block) ∨ ∃ cur e, w.heap[A.block]? = some (.cells cur e (0, 0)) := by
     intro f0 hO hR
     rcases hR with ⟨A, rfl, rfl⟩ | ⟨g, cap, cur, rows, Bs, rfl, h2, h3, h4, h5, h6, h7, h8⟩
     ·simp at hi
     ·obtain ⟨q1, q2, q3, q4⟩ := h7 i hi
      simp only [sub] at h
      rw [rowCells_eq (w := w) q1 (fun j hj => by rw [add_add, cell_row h2, q2 j hj])] at h
      rcases ih q4 hO h A hA with ⟨A0, e1, e2⟩ | h
      ·obtain rfl := Option.some.inj e1
       rw [add_block] at e2
       exact .inr ⟨cur, e, by rw [← e2]; exact h2⟩
      ·exact .inr h
    rcases hf with rfl | rfl | ⟨n0, c0, rfl⟩
    ·exact aux _ hOk' hR
    ·exact aux _ hOk' hR
    ·exact aux _ hOk' hR.1
   | l => simp [Ok] at hOk
   | r => simp [Ok] at hOk
  | unit => simp [Ok] at hOk
  | int _ => simp [Ok] at hOk
  | bool => simp [Ok] at hOk
  | str => simp [Ok] at hOk
theorem Rel.placeFr {L : Lay} {st : St} {a : Act} {w : World} {R : Nat → Prop} (h : Rel L st a w R) {g : Nat} {p : Path} {s1 : Sh} {cs1 : List Value} {A : Addr} (hp : Place L st w g p s1 cs1 (some A)) : ∃ cur e, w.heap[A.block]? = some (.cells cur e (0, 0)) := by
 obtain ⟨k, s, f, x, e1, e2, e3, e4⟩ := hp
 obtain ⟨r1, B, r2, r3, r4⟩ := h.root e1
 rcases sub_fr p r4 e2 e4 A rfl with ⟨A0, u1, u2⟩ | h
 ·cases k with
  | val agg => rw [r1.2.2] at u1; cases u1
  | tup aggs => rw [r1.2.2] at u1; cases u1
  | box t =>
   obtain ⟨b, m1, m2, m3⟩ := r1
   rw [m3] at u1
   obtain rfl := Option.some.inj u1
   exact ⟨_, _, by rw [← u2]; exact m2⟩
  | ibox t b =>
   obtain ⟨m1, m2, m3⟩ := r1
   rw [m3] at u1
   obtain rfl := Option.some.inj u1
   exact ⟨_, _, by rw [← u2]; exact m2⟩
 ·exact h
theorem wrArr_list (c : Array Value) (off : Nat) (vs : List Value) (h : off + vs.length ≤ c.size) : wrArr c off vs = (c.toList.take off ++ vs ++ c.toList.drop (off + vs.length)).toArray := by
 apply Array.ext_getElem?
 intro k
 simp only [List.getElem?_toArray]
 by_cases h1 : k < off
 ·rw [wrArr_out _ _ _ _ (.inl h1), List.append_assoc, List.getElem?_append_left (by simp; omega)]
  simp [h1]
 ·by_cases h2 : k < off + vs.length
  ·have e : k = off + (k - off) := by omega
   rw [e, wrArr_in vs c off _ h (by omega), List.append_assoc, List.getElem?_append_right (by simp; omega), List.getElem?_append_left (by simp; omega)]
   congr 1
   simp; omega
  ·rw [wrArr_out _ _ _ _ (.inr (by omega)), List.getElem?_append_right (by simp; omega)]
   simp only [List.getElem?_drop, List.length_append, List.length_take, Array.length_toList]
   rw [Array.getElem?_toList]
   congr 1
   omega
/-- the machine's store of cells at a place -/
theorem run_storeAt {P : Program} {w : World} {A : Addr} {cs n : List Value} {cur : Array Value} {e : TypeId} (hA : At w (some A) cs) (hl : n.length = cs.length) (hp : 0 < cs.length) (hc : w.heap[A.block]? = some (.cells cur e (0, 0))) (h1 : ∀ u ∈ n, u.oneCell' = true) :
  ∃ w', (storeCells A n).run P w = .ok () w' ∧ Wr w w' A n ∧ A.spot = none ∧ w'.heap.size = w.heap.size ∧ w'.os = w.os ∧ w'.tape = w.tape ∧ w'.output = w.output := by
 have hsp := At.spot hA hp
 have hbd : A.off + cs.length ≤ cur.size := by
  have := hA A rfl (cs.length - 1) (by omega)
  rw [cell_at hsp hc, List.getElem?_eq_getElem (by omega)] at this
  have := (Array.getElem?_eq_some_iff.1 this).1
  omega
 have hAe : A = ⟨A.block, A.off, none⟩ := by cases A; simp at hsp; subst hsp; rfl
 refine ⟨w.setRow A.block (wrArr cur A.off n), ?_, ⟨fun b hb => setRow_other w _ b _ hb, fun cur' e' fr' hh => ?_⟩, hsp, by simp [World.setRow], rfl, rfl, rfl⟩
 ·rw [wrArr_list _ _ _ (by omega)]
  have := run_storeCells_at P A.block A.off e n 0 cur w hc (by omega) h1
  rw [hAe]
  simpa using this
 ·rw [hc] at hh
  obtain ⟨rfl, rfl, hfr⟩ : cur = cur' ∧ e = e' ∧ ((0, 0) : Nat × Nat) = fr' := by
   have := Option.some.inj hh
   injection this with q1 q2 q3
   exact ⟨q1, q2, q3⟩
  subst hfr
  exact setRow_heap w _ cur _ e _ hc
/-! ### the table of types -/
def isAggT (P : Program) (t : Nat) : Bool := match P.underlying t with
 | some (.struct _) => true
 | some (.array _ _) => true
 | _ => false
/-- a field's offset and shape -/
def fieldAt : Sh → Nat → Nat → Option (Nat × Sh)
 | s, 0, 1 => some (0, s)
 | .pr a _, 0, _ + 2 => some (0, a)
 | .pr a b, i + 1, n + 2 => (fieldAt b i (n + 1)).map fun q => (a.size + q.1, q.2)
 | _, _, _ => none
structure FieldOk (P : Program) (i : TI) (fs : Array Field) (n : Nat) : Prop where
 ex : ∃ f agg1 s1 o fi, fs[n]? = some f ∧ i.fs[n]? = some (agg1, s1) ∧ fieldAt i.sh n i.nf = some (o, s1) ∧ f.offset = o ∧ P.info? f.type = some fi ∧ fi.size = s1.size ∧ 0 < s1.size ∧ isAggT P f.type = agg1 ∧ (P.underlying f.type).isSome = true ∧ (agg1 = false → s1.size = 1)
def Sh.isPr : Sh → Bool
 | .pr _ _ => true
 | _ => false
/-- a struct's fields are scalars, laid as the shape says -/
def Flat (P : Program) : List Field → Sh → Nat → Prop
 | [f], s, o => f.offset = o ∧ f.name ≠ "_" ∧ isAggT P f.type = false ∧ ((∃ k, s = .int k ∧ P.underlying f.type = some (.int k)) ∨ (s = .bool ∧ P.underlying f.type = some .bool) ∨ (s = .str ∧ P.underlying f.type = some .string))
 | f :: g :: r, .pr s b, o => (f.offset = o ∧ f.name ≠ "_" ∧ isAggT P f.type = false ∧ ((∃ k, s = .int k ∧ P.underlying f.type = some (.int k)) ∨ (s = .bool ∧ P.underlying f.type = some .bool) ∨ (s = .str ∧ P.underlying f.type = some .string))) ∧ Flat P (g :: r) b (o + 1)
 | _, _, _ => False
structure TOk (P : Program) (t : Nat) (i : TI) : Prop where
 noPr : i.agg = false → i.sh.isPr = false
 info : ∃ ti z, P.info? t = some ti ∧ ti.size = i.sh.size ∧ ti.bytes = i.bytes ∧ ti.zero = some z ∧ z.cells.toList = i.sh.encZ
 pos : 0 < i.sh.size
 agg : isAggT P t = i.agg
 isS : (P.underlying t).isSome = true
 one : i.agg = false → i.sh.size = 1
 arr : i.agg = true → i.nf = 0 → i.sh.plain = true ∧ ∃ n e ie, P.underlying t = some (.array n e) ∧ P.info? e = some ie
 str : i.agg = true → 0 < i.nf → ∃ fs, P.underlying t = some (.struct fs) ∧ fs.size = i.nf ∧ ∀ n, n < i.nf → FieldOk P i fs n
 cmp : i.cmp = true → i.agg = true → ∃ fs, P.underlying t = some (.struct fs) ∧ Flat P fs.toList i.sh 0 ∧ P.stoodInHeld t = false ∧ P.eqGuardType P.depth t = false
 int : ∀ k, i.sh = .int k → i.agg = false → P.underlying t = some (.int k)
 str' : i.sh = .str → i.agg = false → P.underlying t = some .string
 bool : i.sh = .bool → i.agg = false → P.underlying t = some .bool
 sl : ∀ e s, i.sh = .sl e s → i.agg = false → P.underlying t = some (.slice e) ∧ ∃ ti z, P.info? e = some ti ∧ ti.size = s.size ∧ ti.zero = some z ∧ z.cells.toList = s.encZ ∧ 0 < s.size
def TabOk (P : Program) (T : List (Nat × TI)) : Prop := ∀ t i, tget T t = some i → TOk P t i
theorem run_isAgg {P : Program} {t : Nat} (h : (P.underlying t).isSome = true) (w : World) : (isAgg t).run P w = .ok (isAggT P t) w := by
 obtain ⟨d, hd⟩ := Option.isSome_iff_exists.1 h
 unfold isAgg isAggT
 simp only [Sem.run_bind, run_underlying hd, Result.andThen_ok, hd]
 cases d <;> rfl
theorem mkV_cells {agg : Bool} {cs : List Value} {v : Value} (h : mkV agg cs v) (h1 : ∀ u ∈ cs, u.oneCell' = true) : v.cells.toList = cs := by
 unfold mkV at h
 cases agg with
 | true => simp only [if_true] at h; subst h; rfl
 | false =>
  simp only [Bool.false_eq_true, if_false] at h
  subst h
  have := h1 v List.mem_cons_self
  cases v <;> first | rfl | simp [Value.oneCell'] at this
theorem run_loadVarAt {P : Program} {w : World} {t : Nat} {i : TI} (hT : TOk P t i) {A : Addr} {cs : List Value} (hA : At w (some A) cs) (hl : cs.length = i.sh.size) : ∃ v, (loadVar t A).run P w = .ok v w ∧ mkV i.agg cs v := by
 obtain ⟨ti, z, h1, h2, h3, h4, h5⟩ := hT.info
 unfold loadVar
 simp only [Sem.run_bind, run_isAgg hT.isS, Result.andThen_ok, hT.agg]
 cases hagg : i.agg with
 | true =>
  have hls := run_loadCells_list (P := P) w A cs (fun j v hv => by
   have hj : j < cs.length := (List.getElem?_eq_some_iff.1 hv).1
   rw [hA A rfl j hj]; exact hv)
  refine ⟨.agg cs.toArray, ?_, rfl⟩
  simp [sizeOf, typeInfo, h1, h2, ← hl, hls]
 | false =>
  have hn := hT.one hagg
  match cs, hl with
  | [v], _ =>
   refine ⟨v, ?_, rfl⟩
   have := hA A rfl 0 (by simp)
   simp only [Bool.false_eq_true, if_false]
   have e : A.add 0 = A := by simp [Addr.add]
   rw [e] at this
   simp [run_load, this]
  | [], hl => simp at hl; omega
  | _ :: _ :: _, hl => simp at hl; omega
theorem run_storeVarAt {P : Program} {w : World} {t : Nat} {i : TI} (hT : TOk P t i) {A : Addr} {cs n : List Value} {v : Value} {cur : Array Value} {e : TypeId} (hA : At w (some A) cs) (hl : cs.length = i.sh.size) (hn : n.length = i.sh.size) (hv : mkV i.agg n v) (hc : w.heap[A.block]? = some (.cells cur e (0, 0))) (h1 : ∀ u ∈ n, u.oneCell' = true) :
  ∃ w', (storeVar t A v).run P w = .ok () w' ∧ Wr w w' A n ∧ A.spot = none ∧ w'.heap.size = w.heap.size ∧ w'.os = w.os ∧ w'.tape = w.tape ∧ w'.output = w.output := by
 obtain ⟨ti, z, q1, q2, q3, q4, q5⟩ := hT.info
 obtain ⟨w', r1, r2⟩ := run_storeAt (P := P) hA (by omega) (by have := hT.pos; omega) hc h1
 refine ⟨w', ?_, r2⟩
 have hcl := mkV_cells hv h1
 have hcs : v.cells.size = i.sh.size := by rw [← Array.length_toList, hcl, hn]
 unfold storeVar
 simp [sizeOf, typeInfo, q1, q2, hcs, hcl, r1]
end Go.Proofs.YtoeblmcibheldaaGreatDoor.V
end
section
/- The operations, one by one: where the reading goes, the machine does. First part. No condition. -/
namespace Go.Proofs.YtoeblmcibheldaaGreatDoor.V
open Go Go.RowKit
/-- the frozen zone grows by what was one's own and by what is new -/
structure ZGrow (L L' : Lay) (w : World) : Prop where
 up : ∀ b, L.Z b → L'.Z b
 nw : ∀ b, L'.Z b → L.Z b ∨ (∃ t, L.F t b) ∨ w.heap.size ≤ b
theorem ZGrow.of {L L' : Lay} {w : World} (h : L'.Z = L.Z) : ZGrow L L' w := ⟨fun b hb => by rw [h]; exact hb, fun b hb => .inl (by rw [← h]; exact hb)⟩
structure Stp (L L' : Lay) (w w' : World) : Prop where
 os : w'.os = w.os
 tape : w'.tape = w.tape
 output : w'.output = w.output
 size : w.heap.size ≤ w'.heap.size
 block : ∀ b, b < w.heap.size → (∀ t, ¬ L.F t b) → w'.heap[b]? = w.heap[b]?
 Z : ZGrow L L' w
 F : ∀ t b, L'.F t b → (∃ t', L.F t' b) ∨ w.heap.size ≤ b
theorem Stp.refl (L : Lay) (w : World) : Stp L L w w := ⟨rfl, rfl, rfl, Nat.le_refl _, fun _ _ _ => rfl, .of rfl, fun t b h => .inl ⟨t, h⟩⟩
theorem Stp.trans {A B C : Lay} {w1 w2 w3 : World} (h : Stp A B w1 w2) (k : Stp B C w2 w3) : Stp A C w1 w3 where
 os := k.os.trans h.os
 tape := k.tape.trans h.tape
 output := k.output.trans h.output
 size := Nat.le_trans h.size k.size
 block := fun b hb hn => (k.block b (Nat.lt_of_lt_of_le hb h.size) (fun t ht => by
  rcases h.F t b ht with ⟨t', h'⟩ | h'
  ·exact hn t' h'
  ·omega)).trans (h.block b hb hn)
 Z := ⟨fun b hb => k.Z.up b (h.Z.up b hb), fun b hb => by
  rcases k.Z.nw b hb with q | ⟨t', q⟩ | q
  ·exact h.Z.nw b q
  ·exact .inr (h.F t' b q)
  ·have := h.size; exact .inr (.inr (by omega))⟩
 F := fun t b hb => by
  rcases k.F t b hb with ⟨t', h'⟩ | h'
  ·exact h.F t' b h'
  ·have := h.size; exact .inr (by omega)
theorem Stp.sub {L L' : Lay} (h : Sub L' L) (w : World) : Stp L L' w w := ⟨rfl, rfl, rfl, Nat.le_refl _, fun _ _ _ => rfl, .of h.Z, fun t b hb => .inl (h.F t b hb)⟩
theorem Stp.ext {L : Lay} {w w' : World} (h : Ext w w') : Stp L L w w' := ⟨h.os, h.tape, h.output, h.size, fun b hb _ => h.block b hb, .of rfl, fun t b h => .inl ⟨t, h⟩⟩
def setD (st : St) : Option Tmp → PV → St
 | none, _ => st
 | some d, pv => st.set d pv
def Free : Nat → Prop := fun _ => False
/-- the operation runs, and what it leaves is what the reading says -/
def Goes (P : Program) (o : Oper) (a : Act) (w : World) (L : Lay) (st : St) (pv : PV) : Prop :=
 ∃ v w', ((execOp a.eval o).run P w = .ok (.value v) w' ∨ ((execOp a.eval o).run P w = .ok .skip w' ∧ v = undef)) ∧
  ∀ dst : Option Tmp, (∀ d, dst = some d → (st.at d).isRoot = false) → ∃ L', Stp L L' w w' ∧ Rel L' (setD st dst pv) (a.put dst v) w' Free
section
variable {P : Program} {o : Oper} {L L1 : Lay} {st st1 : St} {a : Act} {w w' : World} {R : Nat → Prop}
theorem Rel.freeR (h : Rel L st a w R) {R' : Nat → Prop} (k : ∀ b, R' b → R b) : Rel L st a w R' := ⟨h.size, h.defers, h.zlt, h.flt, h.dj, fun b hb => h.rlt b (k b hb), fun t b hb hr => h.rdj t b hb (k b hr), h.tmp⟩
theorem goes_o {v : Value} {pv : PV} (hrun : (execOp a.eval o).run P w = .ok (.value v) w') (hs : Stp L L1 w w') (h : Rel L1 st a w' R) (hn : pv.isRoot = false) (hp : ORep L1 st w' pv v) : Goes P o a w L st pv := by
 refine ⟨v, w', .inl hrun, fun dst hd => ⟨L1, hs, ?_⟩⟩
 cases dst with
 | none => exact h.freeR (fun _ h => h.elim)
 | some d => exact (h.setO (hd d rfl) hn hp).freeR (fun _ h => h.elim)
theorem goes_r {v : Value} {k : RK} {s : Sh} {f : Fl} {x : s.ty} {cs : List Value} {ad : Option Addr} {B Fd : Nat → Prop} (hrun : (execOp a.eval o).run P w = .ok (.value v) w') (hs : Stp L L1 w w') (h : Rel L1 st a w' R)
  (h1 : RootAt w' k s v cs ad) (h2 : ∀ b, B b → Fd b) (h3 : ∀ A, ad = some A → ¬ B A.block ∧ Fd A.block) (h4 : Rep w' L1.Z s f x cs B) (h5 : ∀ b, Fd b → b < w'.heap.size ∧ ¬ L1.Z b ∧ (∀ t, ¬ L1.F t b)) (h6 : ∀ b, Fd b → (∃ t, L.F t b) ∨ w.heap.size ≤ b) : Goes P o a w L st (.root k s f x) := by
 refine ⟨v, w', .inl hrun, fun dst hd => ?_⟩
 cases dst with
 | none => exact ⟨L1, hs, h.freeR (fun _ h => h.elim)⟩
 | some d =>
  refine ⟨L1.set d Fd cs ad, ⟨hs.os, hs.tape, hs.output, hs.size, hs.block, ⟨hs.Z.up, hs.Z.nw⟩, fun t b hb => ?_⟩, h.setR (hd d rfl) h1 h2 h3 h4 h5 (fun b hb => hb.elim)⟩
  simp only [Lay.set] at hb
  split at hb
  ·exact h6 b hb
  ·exact hs.F t b hb
theorem ref_root (st : St) (x : Operand) : (ref st x).isRoot = false := by
 cases x with
 | tmp t =>
  simp only [ref]
  split <;> first | rfl | skip
  rename_i h1 h2 h3 h4
  cases hp : st.at t with
  | root k s f x => cases k <;> (first | exact absurd hp (h1 _ _ _ _) | exact absurd hp (h2 _ _ _ _) | exact absurd hp (h3 _ _ _ _ _) | exact absurd hp (h4 _ _ _ _))
  | _ => rfl
 | const c => simp only [ref, ev, cvalue]; split <;> rfl
 | func f => rfl
 | global g => rfl
theorem look_rt {rt : St} (hrt : ∀ g k s f x, rt.at g = .root k s f x → st.at g = .root k s f x) {g : Nat} {p : Path} {c : (s : Sh) × Fl × s.ty} (h : look rt g p = some c) : look st g p = some c := by
 unfold look at h ⊢
 split at h
 ·rename_i k s f x hg
  rw [hrt g k s f x hg]; exact h
 ·cases h
theorem ORep.int {k : IntKind} {n : Int} {v : Value} (h : ORep L st w (.v false (.int k) n) v) : v = .int k n := by
 obtain ⟨cs, h1, h2⟩ := h
 simp only [Rep] at h2
 subst h2
 simpa [mkV] using h1.symm
theorem ORep.bool {b : Bool} {v : Value} (h : ORep L st w (.v false .bool b) v) : v = .bool b := by
 obtain ⟨cs, h1, h2⟩ := h
 simp only [Rep] at h2
 subst h2
 simpa [mkV] using h1.symm
theorem ORep.str {b : ByteArray} {v : Value} (h : ORep L st w (.v false .str b) v) : v = .string b := by
 obtain ⟨cs, h1, h2⟩ := h
 simp only [Rep] at h2
 subst h2
 simpa [mkV] using h1.symm
theorem ORep.mkInt (k : IntKind) (n : Int) : ORep L st w (.v false (.int k) n) (.int k n) := ⟨[_], rfl, rfl⟩
theorem ORep.mkBool (b : Bool) : ORep L st w (.v false .bool b) (.bool b) := ⟨[_], rfl, rfl⟩
theorem ORep.mkStr (b : ByteArray) : ORep L st w (.v false .str b) (.string b) := ⟨[_], rfl, rfl⟩
variable {T : List (Nat × TI)} {rt : St} {out : Out}
theorem moveTup_ok (h : Rel L st a w Free) {x : Operand} (hrun : (execOp a.eval o).run P w = .ok (.value (a.eval x)) w) (hm : moveTup st x = some out) : out.c = true ∧ Goes P o a w L out.st out.pv ∧ (out.cl = true → out.st = st) := by
 unfold moveTup at hm
 split at hm
 ·rename_i t
  split at hm
  ·rename_i ag s f x hg
   obtain ⟨r1, B, r2, r3, r4⟩ := h.root hg
   by_cases hpl : s.plain = true
   ·rw [if_pos hpl] at hm
    obtain rfl := Option.some.inj hm
    exact ⟨rfl, goes_r hrun (Stp.refl _ _) h r1 (B := Free) (Fd := Free) (fun _ h => h) (fun A hA => by rw [r1.2.2] at hA; cases hA) (r4.plain hpl) (fun b hb => hb.elim) (fun b hb => hb.elim), fun _ => rfl⟩
   rw [if_neg hpl] at hm
   obtain rfl := Option.some.inj hm
   obtain ⟨_, rg, _, _⟩ := h.gone hg
   have hsub : Sub ⟨L.Z, fun t' b => if t' = t then False else L.F t' b, L.C, L.D⟩ L := ⟨rfl, fun t' b hb => by
    simp only at hb
    split at hb
    ·exact hb.elim
    ·exact ⟨t', hb⟩⟩
   exact ⟨rfl, goes_r hrun (Stp.sub hsub w) rg r1 r2 r3 r4 (fun b hb => ⟨(h.flt t b hb).1, (h.flt t b hb).2, fun t' ht => rg.rdj t' b ht (.inr hb)⟩) (fun b hb => .inl ⟨t, hb⟩), fun e => by cases e⟩
  ·cases hm
 ·cases hm
theorem pop_move (h : Rel L st a w Free) {x : Operand} (ho : o.op = .move x ∨ o.op = .assign x) (hp : pop T rt st o = some out) : out.c = true ∧ Goes P o a w L out.st out.pv ∧ (out.cl = true → out.st = st) := by
 have hrun : (execOp a.eval o).run P w = .ok (.value (a.eval x)) w := by
  rcases ho with ho | ho <;> simp [execOp, ho]
 by_cases hmt : o.op = .move x ∧ (moveTup st x).isSome = true
 ·obtain ⟨ho, hmt⟩ := hmt
  obtain ⟨out', hm⟩ := Option.isSome_iff_exists.1 hmt
  unfold pop at hp
  rw [ho] at hp
  simp only [hm] at hp
  obtain rfl := Option.some.inj hp
  exact moveTup_ok h hrun hm
 have hout : out = ⟨true, true, st, ref st x⟩ := by
  rcases ho with ho | ho
  ·have hn : moveTup st x = none := by
    cases hq : moveTup st x with
    | none => rfl
    | some y => exact absurd ⟨ho, by rw [hq]; rfl⟩ hmt
   unfold pop at hp
   rw [ho] at hp
   simp only [hn] at hp
   split at hp
   ·cases hp
   ·exact (Option.some.inj hp).symm
  unfold pop at hp
  rw [ho] at hp
  simp only at hp
  ·split at hp
   ·rename_i e
    split at hp
    ·rw [e]; exact (Option.some.inj hp).symm
    ·cases hp
   ·exact (Option.some.inj hp).symm
 subst hout
 exact ⟨rfl, goes_o hrun (Stp.refl _ _) h (ref_root st x) (h.opnd x), fun _ => rfl⟩
theorem ev_bool (h : Rel L st a w R) {c : Operand} {t : Bool} (hc : ev st c = .v false .bool t) : a.eval c = .bool t := by
 cases c with
 | tmp u =>
  simp only [ev] at hc
  have := h.orep (t := u) (by rw [hc]; rfl)
  rw [hc] at this
  exact this.bool
 | const v =>
  simp only [ev, cvalue] at hc
  split at hc
  ·cases hc
  ·injection hc with _ _ h3
   subst h3; rfl
  ·cases hc
  ·cases hc
  ·cases hc
 | func f => simp [ev] at hc
 | global g => simp [ev] at hc
theorem pop_pick (h : Rel L st a w Free) {c x y : Operand} (ho : o.op = .pick c x y) (hp : pop T rt st o = some out) : out.c = true ∧ Goes P o a w L out.st out.pv ∧ (out.cl = true → out.st = st) := by
 unfold pop at hp
 rw [ho] at hp
 simp only at hp
 split at hp
 ·rename_i t hc
  have hv := ev_bool h hc
  cases t with
  | true =>
   have hq : out = ⟨true, true, st, ref st x⟩ := by
    simp only at hp
    split at hp
    ·cases hp
    ·exact (Option.some.inj hp).symm
   subst hq
   exact ⟨rfl, goes_o (v := a.eval x) (by simp [execOp, ho, hv, asBool]) (Stp.refl _ _) h (ref_root st x) (h.opnd x), fun _ => rfl⟩
  | false =>
   have hq : out = ⟨true, true, st, ref st y⟩ := by
    simp only at hp
    split at hp
    ·cases hp
    ·exact (Option.some.inj hp).symm
   subst hq
   exact ⟨rfl, goes_o (v := a.eval y) (by simp [execOp, ho, hv, asBool]) (Stp.refl _ _) h (ref_root st y) (h.opnd y), fun _ => rfl⟩
 ·cases hp
theorem pop_alloc (hT : TabOk P T) (h : Rel L st a w Free) {t : Nat} (ho : o.op = .alloc t) (hp : pop T rt st o = some out) : out.c = true ∧ Goes P o a w L out.st out.pv ∧ (out.cl = true → out.st = st) := by
 unfold pop at hp
 rw [ho] at hp
 simp only at hp
 split at hp
 ·rename_i i hi
  obtain rfl := (Option.some.inj hp)
  obtain ⟨ti, z, h1, h2, h3, h4, h5⟩ := (hT t i hi).info
  refine ⟨rfl, ?_, fun _ => rfl⟩
  have hrun : (execOp a.eval o).run P w = .ok (.value (.pointer (some ⟨w.heap.size, 0, none⟩))) (w.alloc (.cells z.cells t)) := by
   simp [execOp, ho, Instr.alloc, zeroValue, typeInfo, h1, h4, newVar, newRow]
  have hz : z.cells = i.sh.encZ.toArray := by rw [← h5]
  refine goes_r (cs := i.sh.encZ) (ad := some ⟨w.heap.size, 0, none⟩) (B := Free) (Fd := fun b => b = w.heap.size) hrun (Stp.ext (Ext.alloc w _)) (h.grow (Ext.alloc w _)) ?_ (fun b hb => hb.elim) (fun A hA => ?_) (Rep.zero _ _ _ _) (fun b hb => ?_) (fun b hb => .inr (by omega))
  ·exact ⟨w.heap.size, rfl, by rw [← hz]; exact heap_alloc_new w _, rfl⟩
  ·obtain rfl := Option.some.inj hA; exact ⟨id, rfl⟩
  ·subst hb
   refine ⟨by simp, fun hz => ?_, fun t ht => ?_⟩
   ·have := h.zlt _ hz; omega
   ·have := (h.flt _ _ ht).1; omega
 ·cases hp
theorem pop_box (hT : TabOk P T) (h : Rel L st a w Free) {t : Nat} {x : Operand} (ho : o.op = .box t x) (hp : pop T rt st o = some out) : out.c = true ∧ Goes P o a w L out.st out.pv ∧ (out.cl = true → out.st = st) := by
 unfold pop at hp
 rw [ho] at hp
 simp only at hp
 split at hp
 ·rename_i i hi
  split at hp
  ·rename_i f y st' hg
   obtain rfl := (Option.some.inj hp)
   obtain ⟨L', B1, cs, g1, g2, g3, g4, g5, g6, g7⟩ := h.grab (h.opnd x) hg
   refine ⟨rfl, ?_, fun hcl => g7 (by simpa using hcl)⟩
   have hcs := mkV_cells g4 g5.one
   have hrun : (execOp a.eval o).run P w = .ok (.value (.pointer (some ⟨w.heap.size, 0, none⟩))) (w.alloc (.cells cs.toArray t)) := by
    have : (a.eval x).cells = cs.toArray := by rw [← hcs]
    simp [execOp, ho, Instr.box, newVar, newRow, this]
   have hB : ∀ b, B1 b → b < w.heap.size := fun b hb => by obtain ⟨t, ht⟩ := (g3 b hb).2; exact (h.flt t b ht).1
   refine goes_r (cs := cs) (ad := some ⟨w.heap.size, 0, none⟩) (B := B1) (Fd := fun b => B1 b ∨ b = w.heap.size) hrun ((Stp.sub g1 w).trans (Stp.ext (Ext.alloc w _))) (g2.grow (Ext.alloc w _)) ?_ (fun b hb => .inl hb) (fun A hA => ?_) ?_ (fun b hb => ?_) (fun b hb => ?_)
   ·exact ⟨w.heap.size, rfl, heap_alloc_new w _, rfl⟩
   ·obtain rfl := Option.some.inj hA
    exact ⟨fun hb => by have := hB _ hb; simp at this, .inr rfl⟩
   ·rw [g1.Z]
    exact g5.frame (fun _ h => h) (fun b hb => alloc_keep w _ b (by rcases hb with hb | hb; exact h.zlt b hb; exact hB b hb))
   ·rcases hb with hb | hb
    ·refine ⟨by have := hB b hb; simp; omega, fun hz => ?_, fun t ht => ?_⟩
     ·obtain ⟨t, ht⟩ := (g3 b hb).2
      exact (h.flt t b ht).2 (g1.Z ▸ hz)
     ·exact g2.rdj t b ht (.inr hb)
    ·subst hb
     refine ⟨by simp, fun hz => ?_, fun t ht => ?_⟩
     ·have := h.zlt _ (g1.Z ▸ hz); omega
     ·have := (g2.flt _ _ ht).1; omega
   ·rcases hb with hb | hb
    ·exact .inl (g3 b hb).2
    ·exact .inr (by omega)
  ·cases hp
 ·cases hp
theorem pop_load (hT : TabOk P T) (h : Rel L st a w Free) (hrt : ∀ g k s f x, rt.at g = .root k s f x → st.at g = .root k s f x) {t : Nat} {x : Operand} (ho : o.op = .load t x) (hp : pop T rt st o = some out) : out.c = true ∧ Goes P o a w L out.st out.pv ∧ (out.cl = true → out.st = st) := by
 unfold pop at hp
 rw [ho] at hp
 simp only at hp
 have hv := h.opnd x
 split at hp
 ·rename_i i hi
  have hTt := hT t i hi
  split at hp
  ·rename_i g p hx
   rw [hx] at hv
   split at hp
   ·rename_i s f y hl
    split at hp
    ·rename_i hs
     obtain rfl := (Option.some.inj hp)
     refine ⟨rfl, ?_, fun _ => rfl⟩
     obtain ⟨s1, cs1, A, h1, h2⟩ := hv
     have hl' := look_rt hrt hl
     have hss : s = s1 := by
      obtain ⟨k0, s0, f0, x0, e1, e2, ⟨f1, x1, e3⟩, e4⟩ := h1
      unfold look at hl'
      rw [e1] at hl'
      simp only at hl'
      rw [e3] at hl'
      exact (congrArg Sigma.fst (Option.some.inj hl')).symm
     subst hss
     obtain ⟨q1, q2, B1, q3, q4⟩ := h.place h1 hl'
     obtain ⟨v, r1, r2⟩ := run_loadVarAt (P := P) hTt q1 (by rw [q4.len, hs])
     have hrun : (execOp a.eval o).run P w = .ok (.value v) w := by
      simp [execOp, ho, Instr.loadAt, Instr.sureAddr, h2, r1]
     unfold loaded
     by_cases hpl : (s.plain || Fl.allfz s f) = true
     ·rw [if_pos hpl]
      refine goes_o hrun (Stp.refl _ _) h rfl ⟨cs1, r2, ?_⟩
      simp only [Bool.or_eq_true] at hpl
      rcases hpl with hpl | hpl
      ·exact q4.plain hpl
      ·exact q4.allfz hpl
     ·rw [if_neg hpl]
      refine goes_o hrun (Stp.refl _ _) h rfl ⟨s, cs1, some A, h1, r2, fun hag => ?_⟩
      simp only [Bool.or_eq_true, not_or, Bool.not_eq_true] at hpl
      have hone := hTt.one hag
      rw [← hs] at hone
      cases s with
      | sl _ _ => rfl
      | unit => simp [Sh.plain] at hpl
      | int _ => simp [Sh.plain] at hpl
      | bool => simp [Sh.plain] at hpl
      | str => simp [Sh.plain] at hpl
      | pr a b =>
       -- a struct in one cell is none of the table's shapes
       exact absurd hpl.1 (by have := hTt.noPr hag; rw [← hs] at this; simp [Sh.isPr] at this)
    ·cases hp
   ·cases hp
  ·rename_i s y hx
   rw [hx] at hv
   split at hp
   ·rename_i hs
    obtain rfl := (Option.some.inj hp)
    refine ⟨rfl, ?_, fun _ => rfl⟩
    obtain ⟨ad, cs, h1, h2, h3, h4, h5⟩ := hv
    obtain ⟨v, r1, r2⟩ := run_loadVarAt (P := P) hTt (A := ad) (cs := cs) (fun A hA j hj => by obtain rfl := Option.some.inj hA; exact h4 j (by omega)) (by rw [h2, hs])
    refine goes_o (v := v) ?_ (Stp.refl _ _) h rfl ⟨cs, r2, h5⟩
    simp [execOp, ho, Instr.loadAt, Instr.sureAddr, h1, r1]
   ·cases hp
  ·cases hp
 ·cases hp
end
end Go.Proofs.YtoeblmcibheldaaGreatDoor.V
end
section
/- The operations, one by one: second part. No condition. -/
namespace Go.Proofs.YtoeblmcibheldaaGreatDoor.V
open Go Go.RowKit
theorem upd_shape {s1 : Sh} {f2 : Fl} {x2 : s1.ty} : ∀ (p : Path) {s : Sh} {f : Fl} {x : s.ty} {r : Fl × s.ty}, upd s1 f2 x2 s f x p = some r → ∀ {s3 : Sh} {f3 : Fl} {x3 : s3.ty}, get s f x p = some ⟨s3, f3, x3⟩ → s1 = s3 := by
 intro p
 induction p with
 | nil =>
  intro s f x r h s3 f3 x3 hg
  rw [get_nil] at hg
  have e : s = s3 := congrArg Sigma.fst (Option.some.inj hg)
  have : upd s1 f2 x2 s f x [] = if h : s1 = s then some (f2, h ▸ x2) else none := by cases s <;> rfl
  rw [this] at h
  split at h
  ·rename_i e2; exact e2.trans e
  ·cases h
 | cons st p ih =>
  intro s f x r h s3 f3 x3 hg
  cases s with
  | pr a b =>
   cases st with
   | l =>
    simp only [upd] at h
    split at h
    ·rename_i g y hq; exact ih hq hg
    ·cases h
   | r =>
    simp only [upd] at h
    split at h
    ·rename_i g y hq; exact ih hq hg
    ·cases h
   | el i => simp [upd] at h
  | sl e s0 =>
   cases st with
   | el i =>
    cases f <;> simp only [upd] at h
    ·cases h
    ·split at h
     ·rename_i g y hq; exact ih hq hg
     ·cases h
    ·split at h
     ·rename_i g y hq; exact ih hq hg
     ·cases h
    ·cases h
    ·cases h
    ·split at h
     ·rename_i g y hq; exact ih hq hg
     ·cases h
    ·cases h
   | l => simp [upd] at h
   | r => simp [upd] at h
  | unit => simp [upd] at h
  | int _ => simp [upd] at h
  | bool => simp [upd] at h
  | str => simp [upd] at h
section
variable {P : Program} {o : Oper} {L L1 : Lay} {st st1 : St} {a : Act} {w w' : World} {R : Nat → Prop} {T : List (Nat × TI)} {rt : St} {out : Out}
theorem pop_store (hT : TabOk P T) (h : Rel L st a w Free) {t : Nat} {x y : Operand} (ho : o.op = .store t x y) (hp : pop T rt st o = some out) : out.c = true ∧ Goes P o a w L out.st out.pv ∧ (out.cl = true → out.st = st) := by
 unfold pop at hp
 rw [ho] at hp
 simp only at hp
 split at hp
 ·rename_i i hi
  have hTt := hT t i hi
  split at hp
  ·rename_i f z st' hg
   obtain ⟨L', B1, cs, g1, g2, g3, g4, g5, g6, g7⟩ := h.grab (h.opnd y) hg
   split at hp
   ·rename_i g p hx
    split at hp
    ·rename_i st2 hu
     obtain rfl := (Option.some.inj hp)
     refine ⟨rfl, ?_, fun e => by cases e⟩
     have hv := g2.opnd x
     rw [hx] at hv
     obtain ⟨s1, cs1, A, q1, q2⟩ := hv
     obtain ⟨k0, s0, f0, x0, e1, e2, e3, e4⟩ := q1
     have q1 : Place L' st' w g p s1 cs1 (some A) := ⟨k0, s0, f0, x0, e1, e2, e3, e4⟩
     obtain ⟨f1, x1, u1, Bp, u2, u3, u4, u5, u6⟩ := g2.put e1 q1
     unfold V.put at hu
     rw [e1] at hu
     simp only at hu
     split at hu
     ·rename_i f3 x3 hu'
      obtain rfl := Option.some.inj hu
      obtain rfl := upd_shape p hu' u1
      obtain ⟨cur, et, hc⟩ := g2.placeFr q1
      obtain ⟨w', r1, r2, r3, r4, r5, r6, r7⟩ := run_storeVarAt (P := P) hTt u4 u3.len g5.len g4 hc g5.one
      have hA := u5 A rfl
      have hoth : ∀ b, b ≠ A.block → w'.heap[b]? = w.heap[b]? := r2.other
      have hR2 : Rep w' L'.Z i.sh f z cs B1 := by
       rw [g1.Z]
       refine g5.frame (fun _ h => h) (fun b hb => hoth b (fun e => ?_))
       subst e
       rcases hb with hb | hb
       ·exact (g2.flt g _ hA.1).2 (g1.Z ▸ hb)
       ·exact g2.rdj g _ hA.1 (.inr hb)
      have hrel := u6 w' cs f z B1 Free f3 x3 hit (.inr ⟨A, rfl, r3, by rw [g5.len, u3.len], r2⟩) r4 hR2 (fun b hb => .inl (.inr hb)) (fun b hb => hb.elim) hu' (.inl rfl)
      refine ⟨undef, w', .inr ⟨?_, rfl⟩, fun dst hd => ⟨⟨L'.Z, fun t b => if t = g then (L'.F g b ∧ ¬ Bp b) ∨ B1 b else L'.F t b, fun t => if t = g then csub s0 (L'.C g) p cs else L'.C t, L'.D⟩, ?_, ?_⟩⟩
      ·simp [execOp, ho, Instr.storeAt, Instr.sureAddr, q2, r1]
      ·refine ⟨r5, r6, r7, by omega, fun b hb hn => hoth b (fun e => ?_), .of g1.Z, fun t b hb => .inl ?_⟩
       ·subst e
        obtain ⟨t', ht'⟩ := g1.F g _ hA.1
        exact hn t' ht'
       ·simp only at hb
        split at hb
        ·rcases hb with hb | hb
         ·exact g1.F g b hb.1
         ·exact (g3 b hb).2
        ·exact g1.F t b hb
      ·cases dst with
       | none => exact hrel
       | some d => exact hrel.setO (hd d rfl) rfl trivial
     ·cases hu
    ·cases hp
   ·cases hp
  ·cases hp
 ·cases hp
theorem pop_nilCheck (h : Rel L st a w Free) {x : Operand} (ho : o.op = .nilCheck x) (hp : pop T rt st o = some out) : out.c = true ∧ Goes P o a w L out.st out.pv ∧ (out.cl = true → out.st = st) := by
 unfold pop at hp
 rw [ho] at hp
 simp only at hp
 have hv := h.opnd x
 split at hp
 ·rename_i g p hx
  obtain rfl := (Option.some.inj hp)
  rw [hx] at hv
  refine ⟨rfl, goes_o (v := a.eval x) ?_ (Stp.refl _ _) h rfl hv, fun _ => rfl⟩
  obtain ⟨s1, cs1, A, q1, q2⟩ := hv
  simp [execOp, ho, q2]
 ·rename_i s y hx
  obtain rfl := (Option.some.inj hp)
  rw [hx] at hv
  refine ⟨rfl, goes_o (v := a.eval x) ?_ (Stp.refl _ _) h rfl hv, fun _ => rfl⟩
  obtain ⟨ad, cs, q1, _⟩ := hv
  simp [execOp, ho, q1]
 ·cases hp
theorem pop_unOp (h : Rel L st a w Free) {op : UnOp} {t : Nat} {x : Operand} (ho : o.op = .unOp op t x) (hp : pop T rt st o = some out) : out.c = true ∧ Goes P o a w L out.st out.pv ∧ (out.cl = true → out.st = st) := by
 unfold pop at hp
 rw [ho] at hp
 simp only at hp
 have hv := h.opnd x
 split at hp
 ·rename_i pv hu
  obtain rfl := (Option.some.inj hp)
  refine ⟨rfl, ?_, fun _ => rfl⟩
  unfold unop at hu
  split at hu
  ·rename_i b hx
   obtain rfl := Option.some.inj hu
   rw [hx] at hv
   exact goes_o (v := .bool (!b)) (by simp [execOp, ho, hv.bool, Op.unary]) (Stp.refl _ _) h rfl (ORep.mkBool _)
  ·rename_i k n hx
   obtain rfl := Option.some.inj hu
   rw [hx] at hv
   exact goes_o (v := .int k (k.wrap (0 - n))) (by simp [execOp, ho, hv.int, Op.unary, Op.intArith]) (Stp.refl _ _) h rfl (ORep.mkInt _ _)
  ·cases hu
 ·cases hp
theorem pop_convert (hT : TabOk P T) (hsrc : ∀ t i, tget T t = some i → (P.underlying t).isSome = true) (h : Rel L st a w Free) {s d : Nat} {x : Operand} (ho : o.op = .convert s d x) (hp : pop T rt st o = some out) : out.c = true ∧ Goes P o a w L out.st out.pv ∧ (out.cl = true → out.st = st) := by
 unfold pop at hp
 rw [ho] at hp
 simp only at hp
 have hv := h.opnd x
 split at hp
 ·rename_i k b n fs c hi
  split at hp
  ·rename_i k' m hx
   split at hp
   ·rename_i j hj
    obtain rfl := (Option.some.inj hp)
    rw [hx] at hv
    have hd := (hT d _ hi).int k rfl rfl
    obtain ⟨u, hu⟩ := Option.isSome_iff_exists.1 (hT s _ hj).isS
    refine ⟨rfl, goes_o (v := .int k (k.wrap m)) ?_ (Stp.refl _ _) h rfl (ORep.mkInt _ _), fun _ => rfl⟩
    simp [execOp, ho, hv.int, convert, run_underlying hu, run_underlying hd, Conv.intToInt]
   ·cases hp
  ·cases hp
 ·cases hp
theorem intop_run {op : BinOp} {k : IntKind} {x y : Int} {c : Bool} {pv : PV} (h : intop op k x y = some (c, pv)) (hc : c = true) (t : Nat) (W : World) : ∃ v, (binOp op t (.int k x) (.int k y)).run P W = .ok v W ∧ ORep L st w pv v ∧ pv.isRoot = false := by
 cases op <;> simp only [intop, Option.some.injEq, Prod.mk.injEq] at h <;> first | (obtain ⟨h1, rfl⟩ := h) | cases h
 case add => refine ⟨_, ?_, ORep.mkInt _ _, rfl⟩; simp [binOp, Op.intArith]
 case sub => refine ⟨_, ?_, ORep.mkInt _ _, rfl⟩; simp [binOp, Op.intArith]
 case mul => refine ⟨_, ?_, ORep.mkInt _ _, rfl⟩; simp [binOp, Op.intArith]
 case and => refine ⟨_, ?_, ORep.mkInt _ _, rfl⟩; simp only [binOp, Op.intBits, ne_eq, not_true_eq_false, if_false]; rfl
 case or => refine ⟨_, ?_, ORep.mkInt _ _, rfl⟩; simp only [binOp, Op.intBits, ne_eq, not_true_eq_false, if_false]; rfl
 case xor => refine ⟨_, ?_, ORep.mkInt _ _, rfl⟩; simp only [binOp, Op.intBits, ne_eq, not_true_eq_false, if_false]; rfl
 case andNot => refine ⟨_, ?_, ORep.mkInt _ _, rfl⟩; simp only [binOp, Op.intBits, ne_eq, not_true_eq_false, if_false]; rfl
 case eql => refine ⟨_, ?_, ORep.mkBool _, rfl⟩; simp [binOp, Op.intCmp]
 case neq => refine ⟨_, ?_, ORep.mkBool _, rfl⟩; simp [binOp, Op.intCmp, bne]
 case lss => refine ⟨_, ?_, ORep.mkBool _, rfl⟩; simp [binOp, Op.intCmp]
 case leq => refine ⟨_, ?_, ORep.mkBool _, rfl⟩; simp [binOp, Op.intCmp]
 case gtr => refine ⟨_, ?_, ORep.mkBool _, rfl⟩; simp [binOp, Op.intCmp]
 case geq => refine ⟨_, ?_, ORep.mkBool _, rfl⟩; simp [binOp, Op.intCmp]
 case quo =>
  subst h1
  have hy : y ≠ 0 := by simpa using hc
  refine ⟨_, ?_, ORep.mkInt _ _, rfl⟩
  simp [binOp, Op.intDiv, hy]
 case rem =>
  subst h1
  have hy : y ≠ 0 := by simpa using hc
  refine ⟨_, ?_, ORep.mkInt _ _, rfl⟩
  simp [binOp, Op.intDiv, hy]
theorem eq_flat {Z : Nat → Prop} (w : World) (d : Nat) : ∀ (fs : List Field) (s : Sh) (o : Nat), Flat P fs s o → ∀ (c1 c2 : List Value) (x y : s.ty), Rep w Z s .fz x c1 (fun _ => False) → Rep w Z s .fz y c2 (fun _ => False) → ∀ (xs ys : List Value), xs.drop o = c1 → ys.drop o = c2 →
  (Op.eqFields (d + 1) xs.toArray ys.toArray fs).run P w = .ok (eqv s x y) w := by
 have leaf : ∀ (f : Field) (s : Sh) (o : Nat), (f.offset = o ∧ f.name ≠ "_" ∧ isAggT P f.type = false ∧ ((∃ k, s = .int k ∧ P.underlying f.type = some (.int k)) ∨ (s = .bool ∧ P.underlying f.type = some .bool) ∨ (s = .str ∧ P.underlying f.type = some .string))) → ∀ (c1 c2 : List Value) (x y : s.ty), Rep w Z s .fz x c1 (fun _ => False) → Rep w Z s .fz y c2 (fun _ => False) → ∀ (xs ys : List Value) (r1 r2 : List Value), xs.drop o = c1 ++ r1 → ys.drop o = c2 ++ r2 →
   f.name ≠ "_" ∧ s.size = 1 ∧ ∃ u v, (part f.type xs.toArray f.offset).run P w = .ok u w ∧ (part f.type ys.toArray f.offset).run P w = .ok v w ∧ (Op.equalIn (d + 1) f.type u v).run P w = .ok (eqv s x y) w := by
  intro f s o ⟨h1, h2, h3, h4⟩ c1 c2 x y hx hy xs ys r1 r2 e1 e2
  have hpart : ∀ (zs : List Value) (u : Value) (r : List Value), zs.drop o = u :: r → (P.underlying f.type).isSome = true → (part f.type zs.toArray f.offset).run P w = .ok u w := by
   intro zs u r e hs
   have hg : zs[o]? = some u := by
    have : (zs.drop o)[0]? = some u := by rw [e]; rfl
    rw [List.getElem?_drop] at this; simpa using this
   unfold part
   simp only [Sem.run_bind, run_isAgg hs, Result.andThen_ok, h3]
   simp [h1, hg]
  rcases h4 with ⟨k, rfl, hu⟩ | ⟨rfl, hu⟩ | ⟨rfl, hu⟩
  ·simp only [Rep] at hx hy
   subst hx; subst hy
   refine ⟨h2, rfl, _, _, hpart xs _ r1 e1 (by rw [hu]; rfl), hpart ys _ r2 e2 (by rw [hu]; rfl), ?_⟩
   simp [Op.equalIn, run_underlying hu, eqv]
   rfl
  ·simp only [Rep] at hx hy
   subst hx; subst hy
   refine ⟨h2, rfl, _, _, hpart xs _ r1 e1 (by rw [hu]; rfl), hpart ys _ r2 e2 (by rw [hu]; rfl), ?_⟩
   simp [Op.equalIn, run_underlying hu, eqv]
  ·simp only [Rep] at hx hy
   subst hx; subst hy
   refine ⟨h2, rfl, _, _, hpart xs _ r1 e1 (by rw [hu]; rfl), hpart ys _ r2 e2 (by rw [hu]; rfl), ?_⟩
   simp [Op.equalIn, run_underlying hu, eqv]
 intro fs
 induction fs with
 | nil => intro s o h; cases s <;> exact h.elim
 | cons f fs ih =>
  intro s o h c1 c2 x y hx hy xs ys e1 e2
  cases fs with
  | nil =>
   have h' : (f.offset = o ∧ f.name ≠ "_" ∧ isAggT P f.type = false ∧ ((∃ k, s = .int k ∧ P.underlying f.type = some (.int k)) ∨ (s = .bool ∧ P.underlying f.type = some .bool) ∨ (s = .str ∧ P.underlying f.type = some .string))) := by cases s <;> exact h
   obtain ⟨q1, _, u, v, q2, q3, q4⟩ := leaf f s o h' c1 c2 x y hx hy xs ys [] [] (by simpa using e1) (by simpa using e2)
   simp only [Op.eqFields, if_pos q1, Sem.run_bind, q2, q3, q4, Result.andThen_ok]
   cases eqv s x y <;> simp
  | cons g r =>
   cases s with
   | pr s b =>
    obtain ⟨h1, h2⟩ := h
    obtain ⟨u1, u2, B1, B2, rfl, m1, m2, _, k1, k2⟩ := hx
    obtain ⟨v1, v2, B3, B4, rfl, m3, m4, _, k3, k4⟩ := hy
    obtain ⟨q1, qs, u, v, q2, q3, q4⟩ := leaf f s o h1 u1 v1 x.1 y.1 (k1.mono m1) (k3.mono m3) xs ys u2 v2 e1 e2
    have hl1 := k1.len
    have hl2 := k3.len
    have e3 : xs.drop (o + 1) = u2 := by rw [← List.drop_drop, e1]; rw [List.drop_left' (by omega)]
    have e4 : ys.drop (o + 1) = v2 := by rw [← List.drop_drop, e2]; rw [List.drop_left' (by omega)]
    have hih := ih b (o + 1) h2 u2 v2 x.2 y.2 (k2.mono m2) (k4.mono m4) xs ys e3 e4
    rw [Op.eqFields]
    simp only [if_pos q1, Sem.run_bind, q2, q3, q4, Result.andThen_ok]
    simp only [eqv]
    cases eqv s x.1 y.1
    ·simp
    ·simpa using hih
   | unit => exact h.elim
   | int _ => exact h.elim
   | bool => exact h.elim
   | str => exact h.elim
   | sl _ _ => exact h.elim
theorem pop_binOp (hT : TabOk P T) (h : Rel L st a w Free) {op : BinOp} {t t2 : Nat} {x y : Operand} (ho : o.op = .binOp op t x y t2) (hp : pop T rt st o = some out) (hc : out.c = true) : Goes P o a w L out.st out.pv ∧ (out.cl = true → out.st = st) := by
 unfold pop at hp
 rw [ho] at hp
 simp only at hp
 have hx := h.opnd x
 have hy := h.opnd y
 split at hp
 ·rename_i c pv hb
  obtain rfl := (Option.some.inj hp)
  refine ⟨?_, fun _ => rfl⟩
  simp only at hc
  subst hc
  unfold binop at hb
  split at hb
  ·rename_i k n k' m e1 e2
   rw [e1] at hx
   rw [e2] at hy
   have vx := hx.int
   have vy := hy.int
   have hg : ∀ W : World, (eqGuard op t x y (.int k n) (.int k' m)).run P W = .ok () W := by
    intro W
    unfold eqGuard
    cases op <;> simp
   split at hb
   ·obtain ⟨h1, rfl⟩ := Prod.mk.inj (Option.some.inj hb)
    have h0 : 0 ≤ m := by simpa using h1
    refine goes_o (v := .int k (k.wrap (n * 2 ^ (min m.toNat k.bits)))) ?_ (Stp.refl _ _) h rfl (ORep.mkInt _ _)
    simp [execOp, ho, vx, vy, hg, binOp, Op.shift, show ¬ m < 0 from Int.not_lt.mpr h0]
   ·obtain ⟨h1, rfl⟩ := Prod.mk.inj (Option.some.inj hb)
    have h0 : 0 ≤ m := by simpa using h1
    refine goes_o (v := .int k (n.fdiv (2 ^ (min m.toNat k.bits)))) ?_ (Stp.refl _ _) h rfl (ORep.mkInt _ _)
    simp [execOp, ho, vx, vy, hg, binOp, Op.shift, show ¬ m < 0 from Int.not_lt.mpr h0]
   ·rename_i hn1 hn2
    split at hb
    ·rename_i hk
     subst hk
     obtain ⟨v, r1, r2, r3⟩ := intop_run (P := P) (L := L) (st := st) (w := w) hb rfl t w
     refine goes_o (v := v) ?_ (Stp.refl _ _) h r3 r2
     simp [execOp, ho, vx, vy, hg, r1]
    ·cases hb
  ·rename_i s1 s2 e1 e2
   rw [e1] at hx
   rw [e2] at hy
   have vx := hx.str
   have vy := hy.str
   have hg : ∀ W : World, (eqGuard op t x y (.string s1) (.string s2)).run P W = .ok () W := by
    intro W
    unfold eqGuard
    cases op <;> simp
   split at hb
   ·obtain ⟨_, rfl⟩ := Prod.mk.inj (Option.some.inj hb)
    refine goes_o (v := .bool (s1.toList == s2.toList)) ?_ (Stp.refl _ _) h rfl (ORep.mkBool _)
    simp [execOp, ho, vx, vy, hg, binOp, Op.stringOp]
   ·obtain ⟨_, rfl⟩ := Prod.mk.inj (Option.some.inj hb)
    refine goes_o (v := .bool (!(s1.toList == s2.toList))) ?_ (Stp.refl _ _) h rfl (ORep.mkBool _)
    simp [execOp, ho, vx, vy, hg, binOp, Op.stringOp]
   ·obtain ⟨h1, rfl⟩ := Prod.mk.inj (Option.some.inj hb)
    have h0 : s1.size + s2.size ≤ 9223372036854775807 := by simpa using h1
    refine goes_o (v := .string (s1 ++ s2)) ?_ (Stp.refl _ _) h rfl (ORep.mkStr _)
    have h2 : ¬ (((s1.size + s2.size : Nat) : Int) > 9223372036854775807) := by omega
    simp only [execOp, ho, vx, vy, Sem.run_bind, hg, Result.andThen_ok, binOp, Op.stringOp, IntKind.max_i64, if_neg h2]
    rfl
   ·cases hb
  ·cases hb
 ·split at hp
  ·rename_i i hi
   have hTt := hT t i hi
   split at hp
   ·rename_i hcmp
    split at hp
    ·rename_i pv hb
     obtain rfl := (Option.some.inj hp)
     refine ⟨?_, fun _ => rfl⟩
     unfold eqop at hb
     split at hb
     ·rename_i a1 s1 u a2 s2 v e1 e2
      rw [e1] at hx
      rw [e2] at hy
      split at hb
      ·rename_i hag
       obtain ⟨rfl, rfl⟩ := hag
       split at hb
       ·rename_i u' v' hc1 hc2
        obtain ⟨rfl, hu⟩ := castTo_some hc1
        simp only at hu
        subst hu
        obtain ⟨hs2, hv⟩ := castTo_some hc2
        subst hs2
        simp only at hv
        subst hv
        -- the machine's comparison
        have key : (Op.equal t (a.eval x) (a.eval y)).run P w = .ok (eqv i.sh u v) w ∧ (eqGuard op t x y (a.eval x) (a.eval y)).run P w = .ok () w ∧ ((∃ c d, a.eval x = .agg c ∧ a.eval y = .agg d) ∨ ∃ b c, a.eval x = .bool b ∧ a.eval y = .bool c) := by
         obtain ⟨cs1, m1, m2⟩ := hx
         obtain ⟨cs2, m3, m4⟩ := hy
         simp only [Bool.or_eq_true, Bool.and_eq_true, Bool.not_eq_true', beq_iff_eq] at hcmp
         rcases hcmp with ⟨hag, hcm⟩ | ⟨hag, hb⟩
         ·obtain ⟨fs, f1, f2, f3, f4⟩ := hTt.cmp hcm hag
          rw [hag] at m1 m3
          simp only [mkV, if_true] at m1 m3
          rw [m1, m3]
          have hf : P.fieldsOf t = fs := by simp [Program.fieldsOf, f1]
          refine ⟨?_, ?_, .inl ⟨_, _, rfl, rfl⟩⟩
          ·unfold Op.equal
           rw [show Op.maxDepth = 9999 + 1 from rfl, run_equalIn_struct (P := P) w 9999 t _ _ (by rw [hf]; exact f1) f3, hf]
           exact eq_flat (P := P) w 9998 fs.toList i.sh 0 f2 cs1 cs2 u v m2 m4 cs1 cs2 (by simp) (by simp)
          ·unfold eqGuard
           cases op <;> simp [f4]
         ·rw [hag] at m1 m3
          simp only [mkV, Bool.false_eq_true, if_false] at m1 m3
          have hu' := hTt.bool hb hag
          clear hTt hi
          obtain ⟨sh, agg, by_, nf, fs, cm⟩ := i
          simp only at hb hag
          subst hb
          subst hag
          simp only [Rep] at m2 m4
          rw [m2] at m1
          rw [m4] at m3
          have v1 : a.eval x = .bool u := by simpa using m1.symm
          have v2 : a.eval y = .bool v := by simpa using m3.symm
          rw [v1, v2]
          refine ⟨?_, ?_, ?_⟩
          ·exact run_equalIn_bool w 9999 t u v hu'
          ·unfold eqGuard
           cases op <;> simp
          ·exact .inr ⟨u, v, rfl, rfl⟩
        obtain ⟨k1, k2, k3⟩ := key
        split at hb
        ·obtain rfl := Option.some.inj hb
         refine goes_o (v := .bool (eqv i.sh u v)) ?_ (Stp.refl _ _) h rfl (ORep.mkBool _)
         simp only [execOp, ho, Sem.run_bind, k2, Result.andThen_ok]
         rcases k3 with ⟨c1, c2, e3, e4⟩ | ⟨c1, c2, e3, e4⟩
         ·rw [e3, e4] at k1 ⊢
          simp [binOp, k1]
         ·rw [e3, e4] at k1 ⊢
          simp [binOp, k1]
        ·obtain rfl := Option.some.inj hb
         refine goes_o (v := .bool (!(eqv i.sh u v))) ?_ (Stp.refl _ _) h rfl (ORep.mkBool _)
         simp only [execOp, ho, Sem.run_bind, k2, Result.andThen_ok]
         rcases k3 with ⟨c1, c2, e3, e4⟩ | ⟨c1, c2, e3, e4⟩
         ·rw [e3, e4] at k1 ⊢
          simp [binOp, k1]
         ·rw [e3, e4] at k1 ⊢
          simp [binOp, k1]
        ·cases hb
       ·cases hb
      ·cases hb
     ·cases hb
    ·cases hp
   ·cases hp
  ·cases hp
end
end Go.Proofs.YtoeblmcibheldaaGreatDoor.V
end
end
