/- The value-level machine, part 1: Go code told over trees of data, and that this is sound against the model. No statement of the seed is proved in this text. -/
import Derived.Calls
import Derived.Orders
import Derived.Laws.OwnMore
import Derived.Laws.Cells
import Derived.Laws.StructEq
import Derived.Laws.Strings
import Derived.Laws.Slices
import Derived.Laws.Small
import Derived.Laws.Entries
import Derived.Laws.Strings2
import Derived.Laws.IdiomStrings
set_option linter.unusedVariables false
set_option linter.unusedSimpArgs false
set_option linter.unusedSectionVars false
set_option linter.all false
/- The value-level machine: trees of data in the place of memory; what a region, a piece of code and a function come to. Definitions alone; no statement of the seed is proved here. -/
namespace Go.Lft

inductive Stp where
  | fld (i : Nat)
  | elm (i : Nat)
  deriving DecidableEq

/-- Data: what a value tells, as a tree. 'ptr' and 'slc' speak of places of the frame's own variables. -/
inductive D where
  | int (k : IntKind) (n : Int)
  | bool (b : Bool)
  | str (s : List UInt8)
  | agg (xs : List D)
  | lst (own : Bool) (te e : Nat) (xs : List D)
  | fn (f : Nat) (caps : List D)
  | ifc (isNil : Bool)
  | pto (x : D)
  | ptr (r : Nat × Nat) (p : List Stp)
  | slc (r : Nat × Nat) (p : List Stp) (off len : Nat)
  | tup (xs : List D)
  | undef

abbrev Rid := Nat × Nat

mutual
/-- How many cells a datum takes. -/
def D.size : D → Nat
  | .agg xs => D.sizeL xs
  | _ => 1
def D.sizeL : List D → Nat
  | [] => 0
  | x :: xs => D.size x + D.sizeL xs
end

mutual
/-- The same data, its slices no longer one's own. -/
def D.freeze : D → D
  | .agg xs => .agg (D.freezeL xs)
  | .lst _ te e xs => .lst false te e (D.freezeL xs)
  | d => d
def D.freezeL : List D → List D
  | [] => []
  | x :: xs => D.freeze x :: D.freezeL xs
end

mutual
/-- Whether a datum has a slice that is not one's own. -/
def D.cold : D → Bool
  | .agg xs => D.coldL xs
  | .tup xs => D.coldL xs
  | .lst own _ _ xs => !own || D.coldL xs
  | .fn .. => true
  | .pto _ => true
  | _ => false
def D.coldL : List D → Bool
  | [] => false
  | x :: xs => D.cold x || D.coldL xs
end

/-- The part of a datum at a place. -/
def D.get : D → List Stp → Option D
  | d, [] => some d
  | .agg xs, .fld i :: p => (xs[i]?).bind fun x => D.get x p
  | .lst true _ _ xs, .elm i :: p => (xs[i]?).bind fun x => D.get x p
  | _, _ :: _ => none

/-- A datum with another part at a place. -/
def D.put : D → List Stp → D → Option D
  | _, [], y => some y
  | .agg xs, .fld i :: p, y => (xs[i]?).bind fun x => (D.put x p y).map fun z => .agg (xs.set i z)
  | .lst true te e xs, .elm i :: p, y => (xs[i]?).bind fun x => (D.put x p y).map fun z => .lst true te e (xs.set i z)
  | _, _ :: _, _ => none

/-- A variable in memory, or a row of the frame's own ('box': a variable). -/
structure Root where
  box : Bool
  c : D

structure St where
  env : Nat → D
  rs : Rid → Option Root

def upd {α β : Type} [DecidableEq α] (f : α → β) (k : α) (v : β) : α → β := fun i => if i = k then v else f i

mutual
/-- What a load tells of a datum at a place: its own slices by their place. -/
def D.expose (r : Rid) (p : List Stp) : D → D
  | .agg xs => .agg (D.exposeL r p 0 xs)
  | .lst true te e xs => .slc r p 0 xs.length
  | d => d
def D.exposeL (r : Rid) (p : List Stp) (i : Nat) : List D → List D
  | [] => []
  | x :: xs => D.expose r (p ++ [.fld i]) x :: D.exposeL r p (i + 1) xs
end

def under : List Stp → List Stp → Bool
  | [], _ => true
  | _ :: _, [] => false
  | a :: p, b :: q => decide (a = b) && under p q

/-- Whether a place may be one of what lies at another one, elements not told apart. -/
def meets : List Stp → List Stp → Bool
  | [], _ => true
  | _ :: _, [] => false
  | .elm _ :: p, .elm _ :: q => meets p q
  | .fld i :: p, .fld j :: q => decide (i = j) && meets p q
  | _ :: _, _ :: _ => false

/-- What is no longer told: 'all': every mention of the root; else the places and slices behind the place, and ('at_') the slice at it. -/
structure Kill where
  r : Rid
  p : List Stp
  all : Bool
  at_ : Bool

mutual
def Kill.on (k : Kill) : D → D
  | .ptr r p => if r = k.r ∧ (k.all = true ∨ meets k.p p = true ∧ p.length ≠ k.p.length) then .undef else .ptr r p
  | .slc r p off len => if r = k.r ∧ (k.all = true ∨ meets k.p p = true ∧ (k.at_ = true ∨ p.length ≠ k.p.length)) then .undef else .slc r p off len
  | .agg xs => .agg (Kill.onL k xs)
  | .tup xs => .tup (Kill.onL k xs)
  | .fn f xs => .fn f (Kill.onL k xs)
  | d => d
def Kill.onL (k : Kill) : List D → List D
  | [] => []
  | x :: xs => Kill.on k x :: Kill.onL k xs
end

/-- What an operation does. -/
structure Eff where
  val : D
  upd : List (Rid × Option Root)
  kill : List Kill

def killAll : List Kill → (Nat → D) → (Nat → D)
  | [], env => env
  | k :: ks, env => killAll ks (fun t => k.on (env t))

def updAll : List (Rid × Option Root) → (Rid → Option Root) → (Rid → Option Root)
  | [], rs => rs
  | (r, x) :: us, rs => updAll us (Go.Lft.upd rs r x)

def putO (dst : Option Nat) (v : D) (env : Nat → D) : Nat → D :=
  match dst with
  | some t => Go.Lft.upd env t v
  | none => env

def St.app (st : St) (dst : Option Nat) (e : Eff) : St := ⟨putO dst e.val (killAll e.kill st.env), updAll e.upd st.rs⟩

/-- What a type is, as far as is needed. -/
inductive Ty where
  | int (k : IntKind)
  | bool
  | str
  | slice (te e bytes : Nat)
  | strct (n : Nat) (flat : Bool)
  | iface
  | one
  | other

/-- Tables of the program's types. -/
structure Tb where
  ty : Nat → Ty
  off : Nat → Nat → Option Nat
  zero : Nat → Option D
  fl : Nat → Nat → Option (Bool × Nat)
  kinds : Nat → List Nat
  /-- Variables and rows whose slices go over whole where they are stored elsewhere. -/
  mv : Nat → Bool

def isAgg : D → Bool
  | .agg _ => true
  | _ => false

mutual
/-- A datum's cells, as data. -/
def D.leaves : D → List D
  | .agg xs => D.leavesL xs
  | d => [d]
def D.leavesL : List D → List D
  | [] => []
  | x :: xs => D.leaves x ++ D.leavesL xs
end

/-- Whether a value is just this datum, without memory. -/
def litIs : Value → D → Bool
  | .int k n, .int k' n' => decide (k = k' ∧ n = n')
  | .bool b, .bool b' => b == b'
  | .string s, .str l => decide (s.data.toList = l)
  | .slice none 0 0, .lst true _ _ [] => true
  | .nilIface, .ifc true => true
  | _, _ => false
def aggIs : List Value → List D → Bool
  | [], [] => true
  | v :: vs, d :: ds => litIs v d && aggIs vs ds
  | _, _ => false

def ofConst (T : Tb) (hint : Nat) : Value → Option D
  | .int k n => some (.int k n)
  | .bool b => some (.bool b)
  | .string s => some (.str s.data.toList)
  | .slice none 0 0 => match T.ty hint with | .slice te e _ => some (.lst true te e []) | _ => none
  | .nilIface => some (.ifc true)
  | .pointer none => some .undef
  | .agg cs => (T.zero hint).bind fun d => if (isAgg d && aggIs cs.toList d.leaves) = true then some d else none
  | _ => none

def St.ev (T : Tb) (st : St) (hint : Nat) : Operand → Option D
  | .tmp t => some (st.env t)
  | .const v => ofConst T hint v
  | .func f => some (.fn f [])
  | .global _ => none

/-- What becomes of a datum that is stored: its data, and what is to be done with the rows that it speaks of. -/
structure Taken where
  d : D
  upd : List (Rid × Option Root)
  kill : List Kill

mutual
def take (mv : Nat → Bool) (rs : Rid → Option Root) : D → Option Taken
  | .slc r p off len =>
    (rs r).bind fun root => (root.c.get p).bind fun
      | .lst own te e xs =>
        if off + len ≤ xs.length then
          if own = true then
            if p = [] ∧ root.box = false ∧ off = 0 then some ⟨.lst true te e (xs.take len), [(r, none)], [⟨r, [], true, true⟩]⟩
            else if mv r.1 = true ∧ off = 0 ∧ len = xs.length then (root.c.put p .undef).map fun c' => ⟨.lst true te e xs, [(r, some { root with c := c' })], [⟨r, p, false, true⟩]⟩
            else (root.c.put p (.lst false te e (D.freezeL xs))).map fun c' => ⟨.lst false te e (D.freezeL ((xs.drop off).take len)), [(r, some { root with c := c' })], [⟨r, p, false, false⟩]⟩
          else some ⟨.lst false te e ((xs.drop off).take len), [], []⟩
        else none
      | _ => none
  | .agg xs => (takeL mv rs xs).map fun x => ⟨.agg x.1, x.2.1, x.2.2⟩
  | .ptr .. => none
  | .tup _ => none
  | .fn .. => none
  | .pto _ => none
  | .undef => none
  | d => some ⟨d, [], []⟩
def takeL (mv : Nat → Bool) (rs : Rid → Option Root) : List D → Option (List D × List (Rid × Option Root) × List Kill)
  | [] => some ([], [], [])
  | x :: xs => (take mv rs x).bind fun t => (takeL mv (updAll t.upd rs) xs).map fun s => (t.d :: s.1, t.upd ++ s.2.1, t.kill ++ s.2.2)
end

def isScalar : D → Bool
  | .int .. | .bool _ | .str _ => true
  | _ => false

/-! ### Operators -/
def intBin (op : BinOp) (k : IntKind) (a b : Int) : Option D :=
  match op with
  | .add => some (.int k (k.wrap (a + b)))
  | .sub => some (.int k (k.wrap (a - b)))
  | .mul => some (.int k (k.wrap (a * b)))
  | .quo => if b = 0 then none else some (.int k (k.wrap (a.tdiv b)))
  | .rem => if b = 0 then none else some (.int k (a.tmod b))
  | .and => some (.int k (k.wrap (BitVec.ofInt k.bits a &&& BitVec.ofInt k.bits b).toNat))
  | .or => some (.int k (k.wrap (BitVec.ofInt k.bits a ||| BitVec.ofInt k.bits b).toNat))
  | .xor => some (.int k (k.wrap (BitVec.ofInt k.bits a ^^^ BitVec.ofInt k.bits b).toNat))
  | .andNot => some (.int k (k.wrap (BitVec.ofInt k.bits a &&& ~~~BitVec.ofInt k.bits b).toNat))
  | .eql => some (.bool (decide (a = b)))
  | .neq => some (.bool (!decide (a = b)))
  | .lss => some (.bool (decide (a < b)))
  | .leq => some (.bool (decide (a ≤ b)))
  | .gtr => some (.bool (decide (b < a)))
  | .geq => some (.bool (decide (b ≤ a)))
  | _ => none

/-- The order of strings: bytes, one behind the other. -/
def ltB : List UInt8 → List UInt8 → Bool
  | _, [] => false
  | [], _ :: _ => true
  | a :: x, b :: y => decide (a < b) || (decide (a = b) && ltB x y)

def strMax : Nat := 4611686018427387904

def strBin (op : BinOp) (x y : List UInt8) : Option D :=
  match op with
  | .add => if x.length + y.length ≤ strMax then some (.str (x ++ y)) else none
  | .eql => some (.bool (decide (x = y)))
  | .neq => some (.bool (!decide (x = y)))
  | .lss => some (.bool (ltB x y))
  | .leq => some (.bool (ltB x y || decide (x = y)))
  | .gtr => some (.bool (!(ltB x y || decide (x = y))))
  | .geq => some (.bool (!ltB x y))
  | _ => none

def kOf : D → Nat
  | .int .. => 0
  | .str _ => 1
  | .bool _ => 2
  | _ => 9

mutual
/-- Equality of what has no slice in it. -/
def D.same : D → D → Option Bool
  | .int k a, .int k' b => if k = k' then some (decide (a = b)) else none
  | .bool a, .bool b => some (decide (a = b))
  | .str a, .str b => some (decide (a = b))
  | _, _ => none
def D.sameL : List D → List D → Option Bool
  | [], [] => some true
  | x :: xs, y :: ys => (D.same x y).bind fun b => (D.sameL xs ys).map fun c => b && c
  | _, _ => none
end

def binEff (T : Tb) (op : BinOp) (t : Nat) (x y : D) : Option D :=
  match op, x, y with
  | .shl, .int k a, .int _ b => if b < 0 then none else some (.int k (k.wrap (a * 2 ^ (min b.toNat k.bits))))
  | .shr, .int k a, .int _ b => if b < 0 then none else some (.int k (a.fdiv (2 ^ (min b.toNat k.bits))))
  | op, .int k a, .int k' b => if k = k' then intBin op k a b else none
  | op, .str a, .str b => strBin op a b
  | .eql, .bool a, .bool b => match T.ty t with | .bool => some (.bool (decide (a = b))) | _ => none
  | .neq, .bool a, .bool b => match T.ty t with | .bool => some (.bool (!decide (a = b))) | _ => none
  | .eql, .ifc a, .ifc true => match T.ty t with | .iface => some (.bool a) | _ => none
  | .neq, .ifc a, .ifc true => match T.ty t with | .iface => some (.bool (!a)) | _ => none
  | .eql, .agg xs, .agg ys => match T.ty t with | .strct n true => if xs.map kOf = T.kinds t then (D.sameL xs ys).map .bool else none | _ => none
  | .neq, .agg xs, .agg ys => match T.ty t with | .strct n true => if xs.map kOf = T.kinds t then (D.sameL xs ys).map fun b => .bool (!b) else none | _ => none
  | _, _, _ => none

def isIfc : D → Bool
  | .ifc _ => true
  | _ => false

def unEff (op : UnOp) (x : D) : Option D :=
  match op, x with
  | .not, .bool b => some (.bool (!b))
  | .neg, .int k n => some (.int k (k.wrap (0 - n)))
  | _, _ => none

/-- What may be captured: a variable by its address. -/
def isPtr : D → Bool
  | .ptr .. => true
  | .pto _ => true
  | _ => false

/-! ### Places and rows -/
/-- The row that a slice speaks of: whether it is one's own, its elements' cells, and what is in it. -/
def St.row (st : St) (r : Rid) (p : List Stp) : Option (Bool × Nat × List D) :=
  (st.rs r).bind fun root => (root.c.get p).bind fun
    | .lst own _ e xs => some (own, e, xs)
    | _ => none

/-- The elements of a slice, where it is read. -/
def St.items (st : St) : D → Option (List D)
  | .slc r p off len => (st.row r p).bind fun x => if off + len ≤ x.2.2.length then some ((x.2.2.drop off).take len) else none
  | .lst false _ _ xs => some xs
  | .lst true _ _ [] => some []
  | _ => none

def pureE (v : D) : Eff := ⟨v, [], []⟩

def nat? : D → Option Nat
  | .int .i64 n => if 0 ≤ n then some n.toNat else none
  | _ => none

def int? : D → Option Int
  | .int .i64 n => some n
  | _ => none

def bytesOf : List D → Option (List UInt8)
  | [] => some []
  | .int .u8 n :: xs => (bytesOf xs).map fun l => UInt8.ofNat n.toNat :: l
  | _ :: _ => none

def ofBytes (s : List UInt8) : List D := s.map fun b => .int .u8 b.toNat

/-- A new row. -/
def newRow (t te e : Nat) (xs : List D) : Eff := ⟨.slc (t, 0) [] 0 xs.length, [((t, 0), some ⟨false, .lst true te e xs⟩)], [⟨(t, 0), [], true, true⟩]⟩
/-- A new variable. -/
def newVar (t : Nat) (c : D) : Eff := ⟨.ptr (t, 0) [], [((t, 0), some ⟨true, c⟩)], [⟨(t, 0), [], true, true⟩]⟩

def loadEff (st : St) : D → Option D
  | .ptr r p => (st.rs r).bind fun root => (root.c.get p).map fun d => D.expose r p d
  | .pto x => some x
  | _ => none

def layOf : Ty → Bool × Nat
  | .strct n _ => (true, n)
  | .other => (false, 0)
  | _ => (false, 1)

/-- Whether a datum fits a type's shape. -/
def fitsTy (t : Ty) (d : D) : Bool := decide (layOf t = (isAgg d, D.size d))

def storeEff (T : Tb) (st : St) (t : Nat) (a x : D) : Option Eff :=
  match a with
  | .ptr r p =>
    match x with
    | .slc r' p' off len =>
      if r' = r ∧ p' = p ∧ off = 0 then
        (st.rs r).bind fun root => (root.c.get p).bind fun
          | .lst own te' e' xs => if off = 0 ∧ len ≤ xs.length ∧ fitsTy (T.ty t) (.undef) = true then (root.c.put p (.lst own te' e' (xs.take len))).map fun c' => ⟨.undef, [(r, some { root with c := c' })], [⟨r, p, false, true⟩]⟩ else none
          | _ => none
      else
        (take T.mv st.rs (.slc r' p' off len)).bind fun k =>
          (updAll k.upd st.rs r).bind fun root => (root.c.get p).bind fun old =>
            if D.size old = 1 ∧ isAgg old = false ∧ fitsTy (T.ty t) (.undef) = true then (root.c.put p k.d).map fun c' => ⟨.undef, k.upd ++ [(r, some { root with c := c' })], k.kill ++ [⟨r, p, false, true⟩]⟩ else none
    | .agg xs =>
      (take T.mv st.rs (.agg xs)).bind fun k =>
        (updAll k.upd st.rs r).bind fun root => (root.c.get p).bind fun old =>
          if fitsTy (T.ty t) k.d = true ∧ D.size old = D.size k.d ∧ isAgg old = true then (root.c.put p k.d).map fun c' => ⟨.undef, k.upd ++ [(r, some { root with c := c' })], k.kill ++ [⟨r, p, false, true⟩]⟩ else none
    | .lst own te e xs =>
      (st.rs r).bind fun root => (root.c.get p).bind fun old =>
        if D.size old = 1 ∧ isAgg old = false ∧ fitsTy (T.ty t) (.undef) = true then (root.c.put p (.lst own te e xs)).map fun c' => ⟨.undef, [(r, some { root with c := c' })], [⟨r, p, false, true⟩]⟩ else none
    | .int .. | .bool _ | .str _ =>
      (st.rs r).bind fun root => (root.c.get p).bind fun old =>
        if isScalar old = true ∧ fitsTy (T.ty t) (.undef) = true then (root.c.put p x).map fun c' => ⟨.undef, [(r, some { root with c := c' })], []⟩ else none
    | _ => none
  | _ => none

def isStr : Ty → Bool
  | .str => true
  | _ => false

def elemOf? : Ty → Option Nat
  | .slice _ e _ => some e
  | _ => none

def indexEff (T : Tb) (t : Nat) (st : St) (a i : D) : Option D :=
  match a, i with
  | .slc r p off len, .int _ n => if 0 ≤ n ∧ n < len then (st.row r p).bind fun x => if off + len ≤ x.2.2.length ∧ elemOf? (T.ty t) = some x.2.1 then
      (if x.1 = true then some (.ptr r (p ++ [.elm (off + n.toNat)])) else (x.2.2[off + n.toNat]?).map .pto) else none else none
  | .lst false _ e xs, .int _ n => if 0 ≤ n ∧ elemOf? (T.ty t) = some e then (xs[n.toNat]?).map .pto else none
  | _, _ => none

def fieldAddrEff (T : Tb) (st : St) (s f : Nat) (a : D) : Option D :=
  match a with
  | .ptr r p => (st.rs r).bind fun root => (root.c.get p).bind fun
      | .agg xs => if f < xs.length ∧ T.off s f = some (D.sizeL (xs.take f)) then some (.ptr r (p ++ [.fld f])) else none
      | _ => none
  | .pto (.agg xs) => if T.off s f = some (D.sizeL (xs.take f)) then (xs[f]?).map .pto else none
  | _ => none

def fieldEff (T : Tb) (s f : Nat) (x : D) : Option D :=
  match x with
  | .agg xs => (xs[f]?).bind fun d => if T.off s f = some (D.sizeL (xs.take f)) ∧ T.fl s f = some (isAgg d, D.size d) then some d else none
  | _ => none

def loOf : Option D → Option Nat
  | none => some 0
  | some d => nat? d
def hiOf (n : Nat) : Option D → Option Nat
  | none => some n
  | some d => nat? d

def sliceEff (T : Tb) (t : Nat) (st : St) (x : D) (lo hi : Option D) : Option D :=
  match x with
  | .str s => (loOf lo).bind fun l => (hiOf s.length hi).bind fun h => if l ≤ h ∧ h ≤ s.length ∧ isStr (T.ty t) = true then some (.str ((s.drop l).take (h - l))) else none
  | .slc r p off len => (st.row r p).bind fun x => (loOf lo).bind fun l => (hiOf len hi).bind fun h => if l ≤ h ∧ h ≤ len ∧ elemOf? (T.ty t) = some x.2.1 then some (.slc r p (off + l) (h - l)) else none
  | .lst false te e xs => (loOf lo).bind fun l => (hiOf xs.length hi).bind fun h => if l ≤ h ∧ h ≤ xs.length ∧ elemOf? (T.ty t) = some e then some (.lst false te e ((xs.drop l).take (h - l))) else none
  | _ => none

def lenEff (T : Tb) (t : Nat) : D → Option D
  | .str s => if isStr (T.ty t) = true then some (.int .i64 s.length) else none
  | .slc _ _ _ len => if (elemOf? (T.ty t)).isSome = true then some (.int .i64 len) else none
  | .lst false _ _ xs => if (elemOf? (T.ty t)).isSome = true then some (.int .i64 xs.length) else none
  | .lst true _ _ [] => if (elemOf? (T.ty t)).isSome = true then some (.int .i64 0) else none
  | _ => none

def roomMax : Nat := 140737488351232

/-- What is appended: the data, and what becomes of the row that they came of. -/
structure Src where
  e : Nat
  xs : List D
  upd : List (Rid × Option Root)
  kill : List Kill

def appendSrc (st : St) (r0 : Option Rid) : D → Option Src
  | .slc r p off len =>
    (st.rs r).bind fun root => (root.c.get p).bind fun
      | .lst own te e xs =>
        if off + len ≤ xs.length then
          if own = true ∧ p = [] ∧ root.box = false ∧ off = 0 ∧ len = xs.length ∧ r0 ≠ some r then some ⟨e, xs, [(r, none)], [⟨r, [], true, true⟩]⟩
          else if own = true ∧ e = 1 ∧ xs.all isScalar = true then some ⟨e, (xs.drop off).take len, [], []⟩
          else if own = true then
            (root.c.put p (.lst true te e (D.freezeL xs))).map fun c' => ⟨e, D.freezeL ((xs.drop off).take len), [(r, some { root with c := c' })], [⟨r, p, false, false⟩]⟩
          else some ⟨e, (xs.drop off).take len, [], []⟩
        else none
      | _ => none
  | .lst false _ e xs => some ⟨e, xs, [], []⟩
  | .lst true _ e [] => some ⟨e, [], [], []⟩
  | .str s => some ⟨1, ofBytes s, [], []⟩
  | _ => none

def rootOf : D → Option Rid
  | .slc r _ _ _ => some r
  | _ => none

def appendEff (T : Tb) (t ty : Nat) (st : St) (s x : D) : Option Eff :=
  match T.ty ty with
  | .slice te e bytes =>
    (appendSrc st (rootOf s) x).bind fun y =>
      if y.e = e then
        match s with
        | .lst true _ _ [] => if y.xs.length * bytes ≤ roomMax then some ⟨(newRow t te e y.xs).val, y.upd ++ (newRow t te e y.xs).upd, y.kill ++ (newRow t te e y.xs).kill⟩ else none
        | .slc r p off len =>
          (updAll y.upd st.rs r).bind fun root => (root.c.get p).bind fun
            | .lst true te' e' xs =>
              if te' = te ∧ e' = e then
                if off = 0 ∧ len = xs.length then
                  if (len + y.xs.length) * bytes ≤ roomMax then
                    (if p = [] ∧ root.box = false then some (none : Option Root) else (root.c.put p .undef).map fun c' => some { root with c := c' }).bind fun root' =>
                      some ⟨(newRow t te e (xs ++ y.xs)).val, y.upd ++ [(r, root')] ++ (newRow t te e (xs ++ y.xs)).upd, y.kill ++ [⟨r, p, false, true⟩] ++ (newRow t te e (xs ++ y.xs)).kill⟩
                  else none
                else if off + len + y.xs.length ≤ xs.length then
                  (root.c.put p (.lst true te e (xs.take (off + len) ++ y.xs ++ xs.drop (off + len + y.xs.length)))).map fun c' =>
                    ⟨.slc r p off (len + y.xs.length), y.upd ++ [(r, some { root with c := c' })], y.kill ++ [⟨r, p, false, false⟩]⟩
                else none
              else none
            | _ => none
        | _ => none
      else none
  | _ => none

def copyEff (T : Tb) (t : Nat) (st : St) (a x : D) : Option Eff :=
  match a with
  | .slc r p off len =>
    (appendSrc st (some r) x).bind fun y =>
      (updAll y.upd st.rs r).bind fun root => (root.c.get p).bind fun
        | .lst true te e xs =>
          if y.e = e ∧ off + len ≤ xs.length ∧ elemOf? (T.ty t) = some e then
            (root.c.put p (.lst true te e (xs.take off ++ y.xs.take (min len y.xs.length) ++ xs.drop (off + min len y.xs.length)))).map fun c' => ⟨.int .i64 (min len y.xs.length), y.upd ++ [(r, some { root with c := c' })], y.kill ++ [⟨r, p, false, false⟩]⟩
          else none
        | _ => none
  | _ => none

def clearEff (T : Tb) (t : Nat) (st : St) (a : D) : Option Eff :=
  match a with
  | .slc r p off len =>
    (st.rs r).bind fun root => (root.c.get p).bind fun
      | .lst true te e xs =>
        if off + len ≤ xs.length then
          (match T.ty t with | .slice te' _ _ => T.zero te' | _ => none).bind fun z => if D.size z = e then (root.c.put p (.lst true te e (xs.take off ++ List.replicate len z ++ xs.drop (off + len)))).map fun c' => ⟨.tup [], [(r, some { root with c := c' })], [⟨r, p, false, false⟩]⟩ else none
        else none
      | _ => none
  | _ => none

/-! ### Calls -/
mutual
/-- A datum as it is handed to a call that doesn't write it. -/
def close (rs : Rid → Option Root) : D → Option D
  | .slc r p off len => (rs r).bind fun root => (root.c.get p).bind fun
      | .lst _ te e xs => if off + len ≤ xs.length then some (.lst false te e (D.freezeL ((xs.drop off).take len))) else none
      | _ => none
  | .ptr r p => (rs r).bind fun root => (root.c.get p).map fun d => .pto (D.freeze d)
  | .agg xs => (closeL rs xs).map .agg
  | .fn f xs => (closeL rs xs).map (.fn f)
  | .tup _ => none
  | .undef => none
  | .lst true te e [] => some (.lst false te e [])
  | d => some d
def closeL (rs : Rid → Option Root) : List D → Option (List D)
  | [] => some []
  | x :: xs => (close rs x).bind fun y => (closeL rs xs).map fun ys => y :: ys
end

mutual
/-- The places of one's own rows that a datum speaks of. -/
def spoken : D → List (Rid × List Stp)
  | .slc r p _ _ => [(r, p)]
  | .ptr r p => [(r, p)]
  | .agg xs => spokenL xs
  | .fn _ xs => spokenL xs
  | _ => []
def spokenL : List D → List (Rid × List Stp)
  | [] => []
  | x :: xs => spoken x ++ spokenL xs
end

def freezeAt (rs : Rid → Option Root) (r : Rid) (p : List Stp) : Option (Rid × Option Root) :=
  (rs r).bind fun root => (root.c.get p).bind fun d => (root.c.put p (D.freeze d)).map fun c' => (r, some { root with c := c' })

def freezeAll (rs : Rid → Option Root) : List (Rid × List Stp) → Option (List (Rid × Option Root))
  | [] => some []
  | (r, p) :: l => (freezeAt rs r p).bind fun u => (freezeAll (updAll [u] rs) l).map fun us => u :: us

/-- What is lent: the parameter's number, whether it is a variable (else: a row), its place. -/
structure Lent where
  j : Nat
  var : Bool
  r : Rid
  p : List Stp

/-- An argument that a call may write: its place, and its data. -/
def lend (rs : Rid → Option Root) (j : Nat) : D → Option (Lent × D)
  | .ptr r p => (rs r).bind fun root => if p = [] ∧ root.box = true then some (⟨j, true, r, []⟩, .pto root.c) else none
  | .slc r p off len => (rs r).bind fun root => (root.c.get p).bind fun
      | .lst true te e xs => if off = 0 ∧ len = xs.length then some (⟨j, false, r, p⟩, .lst true te e xs) else none
      | _ => none
  | _ => none

def lentAt (md : List Nat) (i : Nat) : Bool := md.contains i || md.contains (i + 1000)

/-- All arguments: what is handed over, the places that may be written, the places that are read. -/
def argsOf (rs : Rid → Option Root) (md : List Nat) (i : Nat) : List D → Option (List D × List Lent × List (Rid × List Stp))
  | [] => some ([], [], [])
  | x :: xs =>
    if lentAt md i = true then (lend rs i x).bind fun y => (argsOf rs md (i + 1) xs).map fun z => (y.2 :: z.1, y.1 :: z.2.1, z.2.2)
    else (close rs x).bind fun y => (argsOf rs md (i + 1) xs).map fun z => (y :: z.1, z.2.1, spoken x ++ z.2.2)

/-- What the call has made of one thing that was lent to it. -/
def giveOne (rs : Rid → Option Root) (l : Lent) (d : D) : Option ((Rid × Option Root) × Kill) :=
  (rs l.r).bind fun root =>
    if l.var = true then
      match d with
      | .pto c => some ((l.r, some { root with c := c }), ⟨l.r, [], false, true⟩)
      | _ => none
    else (root.c.get l.p).bind fun
      | .lst true te e xs =>
        match d with
        | .lst true te' e' xs' => if te' = te ∧ e' = e ∧ xs'.length = xs.length then (root.c.put l.p d).map fun c' => ((l.r, some { root with c := c' }), ⟨l.r, l.p, false, false⟩) else none
        | .undef => (root.c.put l.p .undef).map fun c' => ((l.r, some { root with c := c' }), ⟨l.r, l.p, false, true⟩)
        | _ => none
      | _ => none

/-- What the call has made of what was lent to it ('undef': it has kept it). -/
def giveBack (rs : Rid → Option Root) : List Nat → List Lent → List D → Option (List (Rid × Option Root) × List Kill)
  | [], [], [] => some ([], [])
  | i :: md, l :: ls, d :: ds => if i % 1000 = l.j then (giveOne rs l d).bind fun g => (giveBack (updAll [g.1] rs) md ls ds).map fun z => (g.1 :: z.1, g.2 :: z.2) else none
  | _, _, _ => none

mutual
/-- What a call hands back, as the frame holds it: each row of its own gets a root. -/
def open_ (t : Nat) (j : Nat) : D → D × List (Rid × Option Root) × Nat
  | .lst true te e xs => (.slc (t, j) [] 0 xs.length, [((t, j), some ⟨false, .lst true te e xs⟩)], j + 1)
  | .agg xs => (.agg (openL t j xs).1, (openL t j xs).2)
  | .tup xs => (.tup (openL t j xs).1, (openL t j xs).2)
  | d => (d, [], j)
def openL (t : Nat) (j : Nat) : List D → List D × List (Rid × Option Root) × Nat
  | [] => ([], [], j)
  | x :: xs => ((open_ t j x).1 :: (openL t (open_ t j x).2.2 xs).1, (open_ t j x).2.1 ++ (openL t (open_ t j x).2.2 xs).2.1, (openL t (open_ t j x).2.2 xs).2.2)
end

/-- A result, opened; a new variable comes as a pair, 'undef' ahead of what is in it. -/
def openR (t : Nat) : D → D × List (Rid × Option Root) × Nat
  | .tup [.undef, c] => (.ptr (t, 0) [], [((t, 0), some ⟨true, c⟩)], 1)
  | d => open_ t 0 d

def apartAll : List Lent → List (Rid × List Stp) → Bool
  | [], _ => true
  | l :: ls, m => m.all (fun x => decide (x.1 ≠ l.r)) && ls.all (fun x => decide (x.r ≠ l.r)) && apartAll ls m

abbrev CallF := Nat → List D → Option (D × List D)

def killAt (x : Rid × List Stp) : Kill := ⟨x.1, x.2, false, false⟩
def killRoot (x : Rid × Option Root) : Kill := ⟨x.1, [], true, true⟩

def coldB : D → Bool
  | .pto c => D.cold c
  | d => D.cold d

def coldOf (res : D × List D) (reads : List (Rid × List Stp)) : List (Rid × List Stp) := if (D.cold res.1 || res.2.any coldB) = true then reads else []

/-- A call whose first argument is a struct that is handed over for good, all its rows with it ('md' is [2000]); it returns something plain. -/
def giveEff (call : CallF) (f : Nat) (rs : Rid → Option Root) : List D → Option Eff
  | .agg ys :: zs =>
    if zs.all isScalar = true then
      (takeL (fun _ => true) rs ys).bind fun k =>
        if (openL 0 0 k.1).2.2 ≤ 99 then (call f (.agg k.1 :: zs)).bind fun res => if isScalar res.1 = true then some ⟨res.1, k.2.1, k.2.2⟩ else none
        else none
    else none
  | _ => none

/-- A function that only hands a struct's slice on to another one ('md' is [4000, the field, its place in the cells, the other function]). -/
def wrapOf : List Nat → Option (Nat × Nat × Nat)
  | [4000, i, o, g] => some (i, o, g)
  | _ => none
/-- .. its call is the other one's. -/
def wrapEff (base : Nat → List D → Option Eff) (mdg : List Nat) (q : Nat × Nat × Nat) : List D → Option Eff
  | [.agg ds, .int k n] =>
    (ds[q.1]?).bind fun d => match d with
      | .slc r p off len => if D.sizeL (ds.take q.1) = q.2.1 ∧ mdg = [0] then base q.2.2 [.slc r p off len, .int k n] else none
      | _ => none
  | _ => none

/-- A call of whatever lends and reads. -/
def baseEff (call : CallF) (md : Nat → List Nat) (t f : Nat) (st : St) (xs : List D) : Option Eff :=
  (argsOf st.rs (md f) 0 xs).bind fun a =>
    if apartAll a.2.1 a.2.2 = true then
      (call f a.1).bind fun res =>
        (freezeAll st.rs (coldOf res a.2.2)).bind fun fr =>
          (giveBack (updAll fr st.rs) (md f) a.2.1 res.2).bind fun g =>
            if (openR t res.1).2.2 ≤ 99 then
              some ⟨(openR t res.1).1, fr ++ g.1 ++ (openR t res.1).2.1, (coldOf res a.2.2).map killAt ++ g.2 ++ (openR t res.1).2.1.map killRoot⟩
            else none
    else none

def callEff (call : CallF) (md : Nat → List Nat) (t f : Nat) (st : St) (xs : List D) : Option Eff :=
  if md f = [2000] then giveEff call f st.rs xs else
  match wrapOf (md f) with
  | some q => wrapEff (fun g ys => baseEff call md t g st ys) (md q.2.2) q xs
  | none => baseEff call md t f st xs

/-! ### An operation -/
def evL (T : Tb) (st : St) (tys : List Nat) : List Operand → Option (List D)
  | [] => some []
  | x :: xs => (st.ev T (tys.headD 0) x).bind fun y => (evL T st (tys.drop 1) xs).map fun ys => y :: ys

/-- Whether a literal is just this datum. -/
def constAs (v : Value) (old : D) : Bool :=
  match v with
  | .agg cs => isAgg old && aggIs cs.toList old.leaves
  | v => litIs v old

/-- A literal's part, where this datum stands so far. -/
def evPart (T : Tb) (st : St) (old : D) (x : Operand) : Option D :=
  match x with
  | .const v => if constAs v old = true then some old else ofConst T 0 v
  | x => st.ev T 0 x

def isPlain : D → Bool
  | .tup _ => false
  | .undef => false
  | _ => true

/-- A struct literal's parts put in their places. -/
def fillS (T : Tb) (st : St) (ty : Nat) (xs : List D) : List (Nat × Operand) → Option (List D)
  | [] => some xs
  | (i, x) :: l =>
    (xs[i]?).bind fun old => (evPart T st old x).bind fun d =>
      if isPlain d = true ∧ D.size d = D.size old ∧ isAgg d = isAgg old ∧ T.off ty i = some (D.sizeL (xs.take i)) ∧ T.fl ty i = some (isAgg old, D.size old) then fillS T st ty (xs.set i d) l else none

/-- A slice literal's parts put in their places. -/
def fillL (T : Tb) (st : St) (xs : List D) (upds : List (Rid × Option Root)) (kills : List Kill) : List (Nat × Operand) → Option (List D × List (Rid × Option Root) × List Kill)
  | [] => some (xs, upds, kills)
  | (i, x) :: l =>
    (xs[i]?).bind fun old => (evPart T st old x).bind fun d => (take T.mv (updAll upds st.rs) d).bind fun k =>
      if D.size k.d = D.size old ∧ isAgg k.d = isAgg old then fillL T st (xs.set i k.d) (upds ++ k.upd) (kills ++ k.kill) l else none

def D.items : D → Option (List D)
  | .agg xs => some xs
  | _ => none

def evO (T : Tb) (st : St) (hint : Nat) : Option Operand → Option (Option D)
  | none => some none
  | some x => (st.ev T hint x).map some

/-- A string's byte. -/
def strAt (T : Tb) (t : Nat) : D → D → Option D
  | .str s, .int _ n => if 0 ≤ n ∧ isStr (T.ty t) = true then (s[n.toNat]?).map fun b => .int .u8 b.toNat else none
  | _, _ => none

/-- All operations but calls. -/
def plainEff (T : Tb) (t hint : Nat) (st : St) (op : Op) : Option Eff :=
  let ev := st.ev T hint
  let u (x : Option D) : Option Eff := x.map pureE
  match op with
  | .move x | .assign x => u (ev x)
  | .pick c a b => (ev c).bind fun | .bool c => u (if c = true then ev a else ev b) | _ => none
  | .alloc ty => (T.zero ty).map (newVar t)
  | .box ty x => (st.ev T ty x).bind fun d => (take T.mv st.rs d).bind fun k => if D.size k.d = (layOf (T.ty ty)).2 then (let n := newVar t k.d; some ⟨n.val, k.upd ++ n.upd, k.kill ++ n.kill⟩) else none
  | .build ty parts => (T.zero ty).bind fun z => z.items.bind fun xs => (fillS T st ty xs parts.toList).map fun y => pureE (.agg y)
  | .buildSlice ty len parts =>
    match T.ty ty with
    | .slice te e _ => (T.zero te).bind fun z => if len * e ≤ 16777216 then (fillL T st (List.replicate len z) [] [] parts.toList).map fun y => (let n := newRow t te e y.1; ⟨n.val, y.2.1 ++ n.upd, y.2.2 ++ n.kill⟩) else none
    | _ => none
  | .load ty a => (ev a).bind fun a => (loadEff st a).bind fun d => if fitsTy (T.ty ty) d = true then some (pureE d) else none
  | .store ty a x => (ev a).bind fun a => (st.ev T ty x).bind fun x => storeEff T st ty a x
  | .nilCheck x => (ev x).bind fun | .ptr r p => some (pureE (.ptr r p)) | .pto d => some (pureE (.pto d)) | _ => none
  | .binOp op ty x y _ => (ev x).bind fun x => (ev y).bind fun y' => u (if (isIfc y' && !Region.isConst y) = true then none else binEff T op ty x y')
  | .unOp op _ x => (ev x).bind fun x => u (unEff op x)
  | .convert src dst x => (ev x).bind fun d =>
    match T.ty src, T.ty dst, d with
    | .int _, .int k, .int _ n => some (pureE (.int k (k.wrap n)))
    | .str, .str, .str s => some (pureE (.str s))
    | .str, .slice te e _, .str s => match T.ty te with | .int .u8 => if e = 1 ∧ s.length ≤ roomMax then some (newRow t (te + 1000000) e (ofBytes s)) else none | _ => none
    | .slice te _ _, .str, d => match T.ty te with | .int .u8 => (st.items d).bind fun xs => (bytesOf xs).map fun s => pureE (.str s) | _ => none
    | _, _, _ => none
  | .makeFunc (.func f) first captured => if first.isEmpty = true then (evL T st [] captured.toList).bind fun xs => if xs.all isPtr = true then some (pureE (.fn f xs)) else none else none
  | .makeSlice ty len cap =>
    match T.ty ty with
    | .slice te e bytes => ((ev len).bind int?).bind fun n => ((ev cap).bind int?).bind fun c => (T.zero te).bind fun z =>
      if 0 ≤ n ∧ n ≤ c ∧ c * bytes ≤ roomMax ∧ c ≤ roomMax then some (newRow t te e (List.replicate n.toNat z)) else none
    | _ => none
  | .slice ty x lo hi none => (ev x).bind fun x => (evO T st hint lo).bind fun lo => (evO T st hint hi).bind fun hi => u (sliceEff T ty st x lo hi)
  | .fieldAddr s x f => (ev x).bind fun a => u (fieldAddrEff T st s f a)
  | .field s x f => (ev x).bind fun a => u (fieldEff T s f a)
  | .indexAddr ty x i => (ev x).bind fun a => (ev i).bind fun i => u (indexEff T ty st a i)
  | .index ty x i => (ev x).bind fun a => (ev i).bind fun i => u (strAt T ty a i)
  | .extract x i => (ev x).bind fun | .tup xs => u (xs[i]?) | _ => none
  | _ => none

def builtinEff (T : Tb) (t : Nat) (st : St) (b : Builtin) (c : Call) : Option Eff :=
  (evL T st c.argTypes.toList c.args.toList).bind fun xs =>
    match b, xs, c.argTypes.toList with
    | .len, [x], [t0] => (lenEff T t0 x).map pureE
    | .append, [s, x], [t0, t1] => if (isStr (T.ty t1) || (elemOf? (T.ty t1)).isSome) = true then appendEff T t t0 st s x else none
    | .copy, [s, x], [t0, _] => copyEff T t0 st s x
    | .clear, [s], [t0] => clearEff T t0 st s
    | .max, [.int k a, .int _ b], _ => some (pureE (.int k (if b > a then b else a)))
    | .min, [.int k a, .int _ b], _ => some (pureE (.int k (if b < a then b else a)))
    | _, _, _ => none

def callOp (T : Tb) (call : CallF) (md : Nat → List Nat) (t hint : Nat) (st : St) (c : Call) : Option Eff :=
  match c.callee with
  | .builtin b => builtinEff T t st b c
  | .value f => (st.ev T hint f).bind fun | .fn f caps => if caps.all (fun d => !isAgg d) = true then (evL T st c.argTypes.toList c.args.toList).bind fun xs => callEff call md t f st (xs ++ caps) else none | _ => none
  | _ => none

def opEff (T : Tb) (call : CallF) (md : Nat → List Nat) (o : Oper) (st : St) : Option Eff :=
  match o.op with
  | .call c => callOp T call md (o.dst.getD 0) o.type st c
  | op => plainEff T (o.dst.getD 0) o.type st op

end Go.Lft

/- What code and functions come to, by rounds and in the limit; the limit's equations. -/
namespace Go.Lft

/-! ### Regions that draw their order -/
mutual
def ment : D → List Rid
  | .slc r _ _ _ => [r]
  | .ptr r _ => [r]
  | .agg xs => mentL xs
  | .tup xs => mentL xs
  | .fn _ xs => mentL xs
  | _ => []
def mentL : List D → List Rid
  | [] => []
  | x :: xs => ment x ++ mentL xs
end

/-- An operation that has been carried out: what it took, what it did. -/
structure Tr where
  o : Oper
  xs : List D
  e : Eff

def moves : Op → Bool
  | .move _ | .assign _ | .nilCheck _ => true
  | _ => false

def bare : D → Bool
  | .ptr _ [] => true
  | _ => false

def Tr.all (a : Tr) : List Rid := mentL a.xs ++ ment a.e.val
/-- The roots that it feels the change of. -/
def Tr.feels (a : Tr) : List Rid := if moves a.o.op && (a.xs.all bare && bare a.e.val) then [] else a.all

def Tr.quiet (a : Tr) : Bool := a.e.upd.isEmpty && a.e.kill.isEmpty

mutual
def D.noUndef : D → Bool
  | .undef => false
  | .agg xs => D.noUndefL xs
  | .tup xs => D.noUndefL xs
  | .fn _ xs => D.noUndefL xs
  | _ => true
def D.noUndefL : List D → Bool
  | [] => true
  | x :: xs => D.noUndef x && D.noUndefL xs
end

def spares (a b : Tr) : Bool :=
  a.e.upd.all (fun u => !(b.feels).contains u.1 && b.e.upd.all (fun v => decide (v.1 ≠ u.1))) &&
  a.e.kill.all (fun k => if k.all then !(b.all).contains k.r else !(b.feels).contains k.r) &&
  (a.e.kill.isEmpty || D.noUndefL b.xs)

/-- Whether a place lies around another one. -/
def pre : List Stp → List Stp → Bool
  | [], _ :: _ => true
  | a :: p, b :: q => decide (a = b) && pre p q
  | _, [] => false
def isSlc : D → Bool
  | .slc .. => true
  | _ => false
/-- A step that stores a scalar at a place, and one that asks only for what lies around the place. -/
def around (a b : Tr) : Bool :=
  a.e.kill.isEmpty && b.quiet && a.o.dst.isNone &&
  match a.o.op, a.xs with
  | .store _ (.tmp _) _, .ptr r q :: _ =>
    match b.o.op, b.xs with
    | .fieldAddr _ (.tmp _) _, [.ptr r' p] => decide (r' = r) && pre p q
    | .load _ (.tmp _), [.ptr r' p] => decide (r' = r) && (pre p q && isSlc b.e.val)
    | _, _ => false
  | _, _ => false

/-- A step that asks for what lies around the places that a row's making freezes. -/
def aside (a b : Tr) : Bool :=
  a.quiet &&
  (match b.o.op with | .buildSlice .. => true | _ => false) &&
  match a.xs with
  | [.ptr r p] =>
    b.e.kill.all (fun k => decide (k.r ≠ r) || (!k.all && !k.at_ && pre p k.p)) &&
    (match a.o.op with
     | .fieldAddr _ (.tmp _) _ => true
     | .load _ (.tmp _) => (match a.e.val with | .slc r' p' _ _ => decide (r' = r ∧ p' = p) | _ => false)
     | _ => false)
  | _ => false

def indep (a b : Tr) : Bool := (a.quiet && b.quiet) || (spares a b && spares b a) || (around a b || around b a || aside a b)

/-- Whether, in a region, the operation j waits for i (i < j). -/
def waitsFor (ops : Array Oper) (i j : Nat) : Bool := ((Region.before ops).getD j 0).testBit i

def pairsOk (ops : Array Oper) (i : Nat) (a : Tr) (j : Nat) : List Tr → Bool
  | [] => true
  | b :: l => (waitsFor ops i j || indep a b) && pairsOk ops i a (j + 1) l

def trOk (ops : Array Oper) (i : Nat) : List Tr → Bool
  | [] => true
  | a :: l => pairsOk ops i a (i + 1) l && trOk ops (i + 1) l

/-- What is asked of the text of a region: its temporaries are there.  -/
def dstOk (n : Nat) (ops : Array Oper) : Bool := ops.toList.all fun o => match o.dst with | some d => decide (d < n) | none => true

/-- What is asked of the text of a region that draws: operations that don't wait for each other share no temporary; edges lead back. -/
def textOk (ops : Array Oper) : Bool :=
  (List.range ops.size).all fun j => match ops[j]? with
    | none => true
    | some oj =>
      oj.after.all (fun e => !Region.binds .any e || decide (e.on < j)) &&
      (match oj.op with | .select .. => false | _ => true) &&
      (List.range j).all fun i => waitsFor ops i j || (match ops[i]? with | none => true | some oi => oi.apart ops oj)

/-- What is asked of a function's text. -/
def codeOk (n : Nat) : Code → Bool
  | .region _ ops draw => dstOk n ops && (!draw || textOk ops)
  | .seq a b => codeOk n a && codeOk n b
  | .cond _ a b => codeOk n a && codeOk n b
  | .block _ a => codeOk n a
  | .loop a => codeOk n a
  | _ => true

/-- A part of a tuple. -/
def cmpOf (i : Nat) : D → D
  | .tup xs => (xs[i]?).getD .undef
  | d => d
def isExt : Op → Option (Nat × Nat)
  | .extract (.tmp t) i => some (t, i)
  | _ => none
/-- The operands' data, as the draw's rule looks at them: of a tuple just the part that is taken. -/
def opData (T : Tb) (st : St) (o : Oper) : List D :=
  match isExt o.op with
  | some (t, i) => [cmpOf i (st.env t)]
  | none => o.op.operands.toList.filterMap fun x => match x with | .tmp t => some (st.env t) | _ => none

/-! ### Running -/
def guardOf (st : St) (ops : Array Oper) (o : Oper) : Option Bool :=
  match o.guard with
  | none => some true
  | some (j, want) =>
    match (ops[j]?).bind (·.dst) with
    | some t => match st.env t with | .bool b => some (b == want) | .tup [] => some false | _ => none
    | none => none

section
variable (T : Tb) (call : CallF) (md : Nat → List Nat)

def stepOp (ops : Array Oper) (o : Oper) (st : St) : Option Eff :=
  (guardOf st ops o).bind fun g => if g = true then opEff T call md o st else some (pureE (.tup []))

def runOps (ops : Array Oper) : List Oper → St → Option St
  | [], st => some st
  | o :: l, st => (stepOp T call md ops o st).bind fun e => runOps ops l (st.app o.dst e)

def traceOps (ops : Array Oper) : List Oper → St → Option (List Tr)
  | [], _ => some []
  | o :: l, st => (stepOp T call md ops o st).bind fun e => (traceOps ops l (st.app o.dst e)).map fun ts => ⟨o, opData T st o, e⟩ :: ts

def runRegion (ops : Array Oper) (draw : Bool) (st : St) : Option St :=
  if draw = true then
    (traceOps T call md ops ops.toList st).bind fun ts => if trOk ops 0 ts = true then runOps T call md ops ops.toList st else none
  else runOps T call md ops ops.toList st

inductive Out where
  | normal
  | exit (id : Nat)
  | ret
  deriving DecidableEq

def execLoop (body : St → Option (Out × St)) : Nat → St → Option (Out × St)
  | 0, _ => none
  | n + 1, st => (body st).bind fun x => match x.1 with | .normal => execLoop body n x.2 | _ => some x

def afterSeq (k : St → Option (Out × St)) (x : Out × St) : Option (Out × St) := match x.1 with | .normal => k x.2 | _ => some x
def afterBlock (id : Nat) (x : Out × St) : Out × St := match x.1 with | .exit i => if i = id then (.normal, x.2) else x | _ => x

def exec (n : Nat) : Code → St → Option (Out × St)
  | .skip, st => some (.normal, st)
  | .region _ ops draw, st => (runRegion T call md ops draw st).map fun st => (.normal, st)
  | .seq a b, st => (exec n a st).bind (afterSeq (exec n b))
  | .cond c a b, st => (st.ev T 0 c).bind fun | .bool c => if c = true then exec n a st else exec n b st | _ => none
  | .block id c, st => (exec n c st).map (afterBlock id)
  | .loop c, st => execLoop (exec n c) n st
  | .exit id, st => some (.exit id, st)
  | .ret, st => some (.ret, st)
  | .label _, st => some (.normal, st)
  | _, _ => none
end

/-! ### Functions -/
/-- All that a program's run at the level of data goes by. -/
structure En where
  P : Program
  T : Tb
  md : Nat → List Nat
  /-- Whether the results are no longer one's own. -/
  fz : Nat → Bool
  mv : Nat → Nat → Bool
  ext : Nat → Option (List D → Option (D × List D))
  /-- What is known of every world: tables that no one writes. -/
  kn : World → Prop := fun _ => True

/-- The tables, as a function goes by them. -/
def En.tb (E : En) (f : Nat) : Tb := { E.T with mv := E.mv f }
/-- The same, as seen from a function. -/
def En.at (E : En) (f : Nat) : En := { E with T := E.tb f }

def initEnv (md : List Nat) (args : List D) (t : Nat) : D :=
  match args[t]? with
  | none => .undef
  | some d => if lentAt md t = true then (match d with | .pto _ => .ptr (t, 99) [] | .lst true te e xs => .slc (t, 99) [] 0 xs.length | _ => .undef) else if md = [2000] ∧ t = 0 then (open_ 0 0 d).1 else d

def initRs (md : List Nat) (args : List D) (r : Rid) : Option Root :=
  if r.2 = 99 ∧ lentAt md r.1 = true then (args[r.1]?).bind fun | .pto c => some ⟨true, c⟩ | .lst true te e xs => some ⟨false, .lst true te e xs⟩ | _ => none
  else if md = [2000] then (args[0]?).bind fun d => updAll (open_ 0 0 d).2.1 (fun _ => none) r else none

def initSt (md : List Nat) (args : List D) : St := ⟨initEnv md args, initRs md args⟩

/-- Whether a root is given back. -/
def backRid (md : List Nat) (r : Rid) : Bool := decide (r.2 = 99) && md.contains r.1

mutual
/-- A result as it leaves the call. -/
def leave (md : List Nat) (rs : Rid → Option Root) : D → Option D
  | .slc r p off len =>
    (rs r).bind fun root => (root.c.get p).bind fun
      | .lst own te e xs => if off + len ≤ xs.length ∧ (own && backRid md r) = false then
          (if own = true ∧ off = 0 then some (.lst true te e (xs.take len)) else some (.lst false te e (D.freezeL ((xs.drop off).take len)))) else none
      | _ => none
  | .agg xs => (leaveL md rs xs).map .agg
  | .ptr .. => none
  | .fn .. => none
  | .pto _ => none
  | .tup _ => none
  | .undef => none
  | d => some d
def leaveL (md : List Nat) (rs : Rid → Option Root) : List D → Option (List D)
  | [] => some []
  | x :: xs => (leave md rs x).bind fun y => (leaveL md rs xs).map fun ys => y :: ys
end

def crosses (a b : Rid × List Stp) : Bool := decide (a.1 = b.1) && (under a.2 b.2 || under b.2 a.2)

def alone : List (Rid × List Stp) → Bool
  | [] => true
  | a :: l => l.all (fun b => !crosses a b) && alone l

def resVars (T : Tb) (st : St) : List ResultVar → Option (List D)
  | [] => some []
  | .tmp t :: l => (resVars T st l).map fun ds => st.env t :: ds
  | .cell a ty :: l => (loadEff st (st.env a)).bind fun d => if fitsTy (T.ty ty) d = true then (resVars T st l).map fun ds => d :: ds else none

/-- What is given back of what was lent: 'md' has the parameter's number, or, of one that the call keeps, its number and 1000. -/
def lentBack (st : St) : List Nat → Option (List D)
  | [] => some []
  | i :: l => if i < 1000 then (st.rs (i, 99)).bind fun root => (lentBack st l).map fun ds => (if root.box = true then .pto root.c else root.c) :: ds
      else (lentBack st l).map fun ds => .undef :: ds

def tupOf : List D → D
  | [d] => d
  | ds => .tup ds

/-- The variable whose address is all that is handed back. -/
def newRid : List D → Option Rid
  | [.ptr r []] => some r
  | _ => none

def finR (md : List Nat) (fz : Bool) (st : St) (ds : List D) : Option (D × List D) :=
  match newRid ds with
  | some r => (st.rs r).bind fun root => if root.box = true ∧ r.2 ≠ 99 ∧ 0 < D.size root.c then (lentBack st md).map fun ms => (.tup [.undef, root.c], ms) else none
  | none =>
    if alone (spokenL ds) = true then
      (leaveL md st.rs ds).bind fun ds' => (lentBack st md).map fun ms => (tupOf (if fz = true then D.freezeL ds' else ds'), ms)
    else none

def finish (T : Tb) (md : List Nat) (fz : Bool) (rv : List ResultVar) (st : St) : Option (D × List D) := (resVars T st rv).bind (finR md fz st)

def atEnd (T : Tb) (md : List Nat) (fz : Bool) (rv : List ResultVar) (x : Out × St) : Option (D × List D) :=
  match x.1 with
  | .exit _ => none
  | _ => finish T md fz rv x.2

def interp (E : En) : Nat → CallF
  | 0, _, _ => none
  | k + 1, f, args =>
    match E.ext f with
    | some g => g args
    | none => (E.P.funcs[f]?).bind fun fn => fn.body.bind fun c =>
        if (codeOk fn.ntmps c && !(fn.name == "runtime.NumGoroutine")) = false then none else
        (exec (E.tb f) (interp E k) E.md k c (initSt (E.md f) args)).bind (atEnd (E.tb f) (E.md f) (E.fz f) fn.results.toList)

/-! ### More rounds tell the same -/
def LeC (a b : CallF) : Prop := ∀ f xs r, a f xs = some r → b f xs = some r
theorem LeC.refl (a : CallF) : LeC a a := fun _ _ _ h => h

section
variable {T : Tb} {call call' : CallF} {md : Nat → List Nat}

theorem giveEff_inv {call : CallF} {f : Nat} {rs : Rid → Option Root} {xs : List D} {e : Eff} (he : giveEff call f rs xs = some e) : ∃ ys zs k res, xs = .agg ys :: zs ∧ zs.all isScalar = true ∧ takeL (fun _ => true) rs ys = some k ∧ (openL 0 0 k.1).2.2 ≤ 99 ∧ call f (.agg k.1 :: zs) = some res ∧ isScalar res.1 = true ∧ e = ⟨res.1, k.2.1, k.2.2⟩ := by
  unfold giveEff at he
  split at he
  · rename_i ys zs
    split at he
    · rename_i hz
      simp only [Option.bind_eq_some_iff] at he
      obtain ⟨k, h1, he⟩ := he
      split at he
      · rename_i hk
        simp only [Option.bind_eq_some_iff] at he
        obtain ⟨res, h2, he⟩ := he
        split at he
        · rename_i hs
          exact ⟨ys, zs, k, res, rfl, hz, h1, hk, h2, hs, (Option.some.inj he).symm⟩
        · cases he
      · cases he
    · cases he
  · cases he
theorem giveEff_of {call : CallF} {f : Nat} {rs : Rid → Option Root} {ys zs : List D} {k : List D × List (Rid × Option Root) × List Kill} {res : D × List D} (h1 : zs.all isScalar = true) (h2 : takeL (fun _ => true) rs ys = some k) (h3 : (openL 0 0 k.1).2.2 ≤ 99) (h4 : call f (.agg k.1 :: zs) = some res) (h5 : isScalar res.1 = true) : giveEff call f rs (.agg ys :: zs) = some ⟨res.1, k.2.1, k.2.2⟩ := by
  simp only [giveEff, if_pos h1, h2, Option.bind_some, if_pos h3, h4, if_pos h5]
theorem giveEff_mono (h : LeC call call') {f : Nat} {rs : Rid → Option Root} {xs : List D} {e : Eff} (he : giveEff call f rs xs = some e) : giveEff call' f rs xs = some e := by
  obtain ⟨ys, zs, k, res, rfl, h1, h2, h3, h4, h5, rfl⟩ := giveEff_inv he
  exact giveEff_of h1 h2 h3 (h _ _ _ h4) h5

theorem wrapEff_inv {base : Nat → List D → Option Eff} {mdg : List Nat} {q : Nat × Nat × Nat} {xs : List D} {e : Eff} (he : wrapEff base mdg q xs = some e) : ∃ ds k n r p off len, xs = [.agg ds, .int k n] ∧ ds[q.1]? = some (.slc r p off len) ∧ D.sizeL (ds.take q.1) = q.2.1 ∧ mdg = [0] ∧ base q.2.2 [.slc r p off len, .int k n] = some e := by
  unfold wrapEff at he
  split at he
  · rename_i ds k n
    simp only [Option.bind_eq_some_iff] at he
    obtain ⟨d, h1, h2⟩ := he
    cases d <;> simp only at h2 <;> try (cases h2; done)
    rename_i r p off len
    split at h2
    · rename_i hc
      exact ⟨ds, k, n, r, p, off, len, rfl, h1, hc.1, hc.2, h2⟩
    · cases h2
  · cases he
theorem wrapEff_of {base : Nat → List D → Option Eff} {mdg : List Nat} {q : Nat × Nat × Nat} {e : Eff} {ds : List D} {k : IntKind} {n : Int} {r : Rid} {p : List Stp} {off len : Nat} (h1 : ds[q.1]? = some (.slc r p off len)) (h2 : D.sizeL (ds.take q.1) = q.2.1) (h3 : mdg = [0]) (h4 : base q.2.2 [.slc r p off len, .int k n] = some e) : wrapEff base mdg q [.agg ds, .int k n] = some e := by
  simp only [wrapEff, h1, Option.bind_some, if_pos (And.intro h2 h3), h4]
theorem baseEff_mono (h : LeC call call') {t f : Nat} {st : St} {xs : List D} {e : Eff} (he : baseEff call md t f st xs = some e) : baseEff call' md t f st xs = some e := by
  unfold baseEff at he ⊢
  rw [Option.bind_eq_some_iff] at he ⊢
  obtain ⟨a, ha, he⟩ := he
  refine ⟨a, ha, ?_⟩
  split at he
  · rename_i hs
    rw [if_pos hs]
    rw [Option.bind_eq_some_iff] at he ⊢
    obtain ⟨res, hr, he⟩ := he
    exact ⟨res, h _ _ _ hr, he⟩
  · cases he

theorem callEff_mono (h : LeC call call') {t f : Nat} {st : St} {xs : List D} {e : Eff} (he : callEff call md t f st xs = some e) : callEff call' md t f st xs = some e := by
  unfold callEff at he ⊢
  by_cases hg : md f = [2000]
  · rw [if_pos hg] at he ⊢
    exact giveEff_mono h he
  rw [if_neg hg] at he ⊢
  cases hw : wrapOf (md f) with
  | none => rw [hw] at he; exact baseEff_mono h he
  | some q =>
    rw [hw] at he
    obtain ⟨ds, k, n, r, p, off, len, rfl, h1, h2, h3, h4⟩ := wrapEff_inv he
    exact wrapEff_of h1 h2 h3 (baseEff_mono h h4)

theorem callOp_mono (h : LeC call call') {t hint : Nat} {st : St} {c : Call} {e : Eff} (he : callOp T call md t hint st c = some e) : callOp T call' md t hint st c = some e := by
  unfold callOp at he ⊢
  cases hc : c.callee <;> simp only [hc] at he ⊢
  case value f =>
    simp only [Option.bind_eq_some_iff] at he ⊢
    obtain ⟨d, hd, he⟩ := he
    refine ⟨d, hd, ?_⟩
    cases d <;> simp only [Option.bind_eq_some_iff] at he ⊢ <;> try exact he
    split at he
    · rename_i hs
      rw [if_pos hs]
      simp only [Option.bind_eq_some_iff] at he ⊢
      obtain ⟨xs, hx, he⟩ := he
      exact ⟨xs, hx, callEff_mono h he⟩
    · cases he
  case builtin b => exact he
  case invoke => exact he

theorem opEff_mono (h : LeC call call') {o : Oper} {st : St} {e : Eff} (he : opEff T call md o st = some e) : opEff T call' md o st = some e := by
  unfold opEff at he ⊢
  split at he
  · exact callOp_mono h he
  · exact he

theorem stepOp_mono (h : LeC call call') {ops : Array Oper} {o : Oper} {st : St} {e : Eff} (he : stepOp T call md ops o st = some e) : stepOp T call' md ops o st = some e := by
  unfold stepOp at he ⊢
  simp only [Option.bind_eq_some_iff] at he ⊢
  obtain ⟨g, hg, he⟩ := he
  refine ⟨g, hg, ?_⟩
  split at he
  · rename_i hs; rw [if_pos hs]; exact opEff_mono h he
  · rename_i hs; rw [if_neg hs]; exact he

theorem runOps_mono (h : LeC call call') {ops : Array Oper} : ∀ {l : List Oper} {st st' : St}, runOps T call md ops l st = some st' → runOps T call' md ops l st = some st'
  | [], _, _, he => he
  | o :: l, st, st', he => by
    simp only [runOps, Option.bind_eq_some_iff] at he ⊢
    obtain ⟨e, h1, h2⟩ := he
    exact ⟨e, stepOp_mono h h1, runOps_mono h h2⟩

theorem traceOps_mono (h : LeC call call') {ops : Array Oper} : ∀ {l : List Oper} {st : St} {ts : List Tr}, traceOps T call md ops l st = some ts → traceOps T call' md ops l st = some ts
  | [], _, _, he => he
  | o :: l, st, ts, he => by
    simp only [traceOps, Option.bind_eq_some_iff, Option.map_eq_some_iff] at he ⊢
    obtain ⟨e, h1, us, h2, h3⟩ := he
    exact ⟨e, stepOp_mono h h1, us, traceOps_mono h h2, h3⟩

theorem runRegion_mono (h : LeC call call') {ops : Array Oper} {draw : Bool} {st st' : St} (he : runRegion T call md ops draw st = some st') : runRegion T call' md ops draw st = some st' := by
  unfold runRegion at he ⊢
  split at he
  · rename_i hd
    rw [if_pos hd]
    simp only [Option.bind_eq_some_iff] at he ⊢
    obtain ⟨ts, h1, h2⟩ := he
    refine ⟨ts, traceOps_mono h h1, ?_⟩
    split at h2
    · rename_i hk; rw [if_pos hk]; exact runOps_mono h h2
    · cases h2
  · rename_i hd; rw [if_neg hd]; exact runOps_mono h he

theorem execLoop_mono {b b' : St → Option (Out × St)} (h : ∀ st x, b st = some x → b' st = some x) : ∀ {n m : Nat} {st : St} {x : Out × St}, n ≤ m → execLoop b n st = some x → execLoop b' m st = some x
  | 0, _, _, _, _, he => by cases he
  | n + 1, 0, _, _, hm, _ => by omega
  | n + 1, m + 1, st, x, hm, he => by
    simp only [execLoop, Option.bind_eq_some_iff] at he ⊢
    obtain ⟨y, h1, h2⟩ := he
    refine ⟨y, h _ _ h1, ?_⟩
    cases hy : y.1 <;> simp only [hy] at h2 ⊢
    · exact execLoop_mono h (by omega) h2
    · exact h2
    · exact h2

theorem exec_mono (h : LeC call call') {n m : Nat} (hm : n ≤ m) : ∀ (c : Code) {st : St} {x : Out × St}, exec T call md n c st = some x → exec T call' md m c st = some x := by
  intro c
  induction c with
  | skip => intro st x he; exact he
  | region id ops draw =>
    intro st x he
    simp only [exec, Option.map_eq_some_iff] at he ⊢
    obtain ⟨st', h1, h2⟩ := he
    exact ⟨st', runRegion_mono h h1, h2⟩
  | seq a b iha ihb =>
    intro st x he
    simp only [exec, Option.bind_eq_some_iff] at he ⊢
    obtain ⟨y, h1, h2⟩ := he
    refine ⟨y, iha h1, ?_⟩
    unfold afterSeq at h2 ⊢
    cases hy : y.1 <;> simp only [hy] at h2 ⊢
    · exact ihb h2
    · exact h2
    · exact h2
  | cond c a b iha ihb =>
    intro st x he
    simp only [exec, Option.bind_eq_some_iff] at he ⊢
    obtain ⟨d, h1, h2⟩ := he
    refine ⟨d, h1, ?_⟩
    cases d <;> simp only at h2 ⊢ <;> try exact h2
    split at h2
    · rename_i hc; rw [if_pos hc]; exact iha h2
    · rename_i hc; rw [if_neg hc]; exact ihb h2
  | block id c ih =>
    intro st x he
    simp only [exec, Option.map_eq_some_iff] at he ⊢
    obtain ⟨y, h1, h2⟩ := he
    exact ⟨y, ih h1, h2⟩
  | loop c ih =>
    intro st x he
    simp only [exec] at he ⊢
    exact execLoop_mono (fun st x hx => ih hx) hm he
  | exit id => intro st x he; exact he
  | ret => intro st x he; exact he
  | label l => intro st x he; exact he
  | rangeFunc f ps a b _ _ => intro st x he; cases he
  | scope b _ => intro st x he; cases he
  | goto l => intro st x he; cases he
  | refuse w => intro st x he; cases he
end

theorem interp_succ (E : En) : ∀ k, LeC (interp E k) (interp E (k + 1))
  | 0, _, _, _, he => by cases he
  | k + 1, f, args, r, he => by
    simp only [interp] at he
    unfold interp
    cases hx : E.ext f with
    | some g => simp only [hx] at he ⊢; exact he
    | none =>
      simp only [hx, Option.bind_eq_some_iff] at he ⊢
      obtain ⟨fn, h1, c, h2, he⟩ := he
      refine ⟨fn, h1, c, h2, ?_⟩
      split at he
      · cases he
      · rename_i hk
        rw [if_neg hk]
        simp only [Option.bind_eq_some_iff] at he ⊢
        obtain ⟨x, h3, h4⟩ := he
        exact ⟨x, exec_mono (interp_succ E k) (Nat.le_succ k) c h3, h4⟩

theorem interp_mono (E : En) {k m : Nat} (h : k ≤ m) : LeC (interp E k) (interp E m) := by
  induction m with
  | zero => obtain rfl : k = 0 := by omega
            exact LeC.refl _
  | succ m ih =>
    rcases Nat.lt_or_ge k (m + 1) with hk | hk
    · exact fun f xs r hr => interp_succ E m f xs r (ih (by omega) f xs r hr)
    · obtain rfl : k = m + 1 := by omega
      exact LeC.refl _

/-! ### The limit -/
open Classical in
/-- What a function comes to, whatever the rounds. -/
noncomputable def lim (E : En) : CallF := fun f args => if h : ∃ k r, interp E k f args = some r then some (Classical.choose (Classical.choose_spec h)) else none

theorem lim_iff {E : En} {f : Nat} {args : List D} {r : D × List D} : lim E f args = some r ↔ ∃ k, interp E k f args = some r := by
  unfold lim
  constructor
  · intro h
    split at h
    · rename_i hx
      have := Classical.choose_spec (Classical.choose_spec hx)
      simp only [Option.some.injEq] at h
      exact ⟨_, h ▸ this⟩
    · cases h
  · rintro ⟨k, hk⟩
    have hx : ∃ k r, interp E k f args = some r := ⟨k, r, hk⟩
    rw [dif_pos hx]
    have h2 := Classical.choose_spec (Classical.choose_spec hx)
    have a := interp_mono E (Nat.le_max_left k (Classical.choose hx)) _ _ _ hk
    have b := interp_mono E (Nat.le_max_right k (Classical.choose hx)) _ _ _ h2
    rw [a] at b
    exact b.symm

theorem le_lim (E : En) (k : Nat) : LeC (interp E k) (lim E) := fun f xs r h => lim_iff.2 ⟨k, h⟩

section
variable {E : En}
theorem baseEff_lim {t f : Nat} {st : St} {xs : List D} {e : Eff} (he : baseEff (lim E) E.md t f st xs = some e) : ∃ k, baseEff (interp E k) E.md t f st xs = some e := by
  unfold baseEff at he
  simp only [Option.bind_eq_some_iff] at he
  obtain ⟨a, ha, he⟩ := he
  split at he
  · rename_i hs
    simp only [Option.bind_eq_some_iff] at he
    obtain ⟨res, hr, he⟩ := he
    obtain ⟨k, hk⟩ := lim_iff.1 hr
    refine ⟨k, ?_⟩
    unfold baseEff
    simp only [Option.bind_eq_some_iff]
    refine ⟨a, ha, ?_⟩
    rw [if_pos hs]
    simp only [Option.bind_eq_some_iff]
    exact ⟨res, hk, he⟩
  · cases he

theorem callEff_lim {t f : Nat} {st : St} {xs : List D} {e : Eff} (he : callEff (lim E) E.md t f st xs = some e) : ∃ k, callEff (interp E k) E.md t f st xs = some e := by
  unfold callEff at he
  by_cases hg : E.md f = [2000]
  · rw [if_pos hg] at he
    obtain ⟨ys, zs, k, res, rfl, h1, h2, h3, h4, h5, rfl⟩ := giveEff_inv he
    obtain ⟨n, hn⟩ := lim_iff.1 h4
    exact ⟨n, by unfold callEff; rw [if_pos hg]; exact giveEff_of h1 h2 h3 hn h5⟩
  rw [if_neg hg] at he
  cases hw : wrapOf (E.md f) with
  | none =>
    rw [hw] at he
    obtain ⟨n, hn⟩ := baseEff_lim he
    exact ⟨n, by unfold callEff; rw [if_neg hg, hw]; exact hn⟩
  | some q =>
    rw [hw] at he
    obtain ⟨ds, k, n, r, p, off, len, rfl, h1, h2, h3, h4⟩ := wrapEff_inv he
    obtain ⟨m, hm⟩ := baseEff_lim h4
    exact ⟨m, by unfold callEff; rw [if_neg hg, hw]; exact wrapEff_of h1 h2 h3 hm⟩

theorem callOp_lim {t hint : Nat} {st : St} {c : Call} {e : Eff} (he : callOp E.T (lim E) E.md t hint st c = some e) : ∃ k, callOp E.T (interp E k) E.md t hint st c = some e := by
  unfold callOp at he ⊢
  cases hc : c.callee <;> simp only [hc] at he ⊢
  case value f =>
    simp only [Option.bind_eq_some_iff] at he ⊢
    obtain ⟨d, hd, he⟩ := he
    cases d <;> simp only [Option.bind_eq_some_iff] at he <;> try (cases he; done)
    split at he
    · rename_i hs
      simp only [Option.bind_eq_some_iff] at he
      obtain ⟨xs, hx, he⟩ := he
      obtain ⟨k, hk⟩ := callEff_lim he
      exact ⟨k, _, hd, by simp only [if_pos hs, Option.bind_eq_some_iff]; exact ⟨xs, hx, hk⟩⟩
    · cases he
  case builtin b => exact ⟨0, he⟩
  case invoke => exact ⟨0, he⟩

theorem opEff_lim {o : Oper} {st : St} {e : Eff} (he : opEff E.T (lim E) E.md o st = some e) : ∃ k, opEff E.T (interp E k) E.md o st = some e := by
  unfold opEff at he ⊢
  split at he
  · exact callOp_lim he
  · exact ⟨0, he⟩

theorem stepOp_lim {ops : Array Oper} {o : Oper} {st : St} {e : Eff} (he : stepOp E.T (lim E) E.md ops o st = some e) : ∃ k, stepOp E.T (interp E k) E.md ops o st = some e := by
  unfold stepOp at he ⊢
  simp only [Option.bind_eq_some_iff] at he ⊢
  obtain ⟨g, hg, he⟩ := he
  split at he
  · rename_i hs
    obtain ⟨k, hk⟩ := opEff_lim he
    exact ⟨k, g, hg, by rw [if_pos hs]; exact hk⟩
  · rename_i hs
    exact ⟨0, g, hg, by rw [if_neg hs]; exact he⟩

theorem runOps_lim {ops : Array Oper} : ∀ {l : List Oper} {st st' : St}, runOps E.T (lim E) E.md ops l st = some st' → ∃ k, runOps E.T (interp E k) E.md ops l st = some st'
  | [], _, _, he => ⟨0, he⟩
  | o :: l, st, st', he => by
    simp only [runOps, Option.bind_eq_some_iff] at he
    obtain ⟨e, h1, h2⟩ := he
    obtain ⟨k1, g1⟩ := stepOp_lim h1
    obtain ⟨k2, g2⟩ := runOps_lim h2
    refine ⟨max k1 k2, ?_⟩
    simp only [runOps, Option.bind_eq_some_iff]
    exact ⟨e, stepOp_mono (interp_mono E (Nat.le_max_left ..)) g1, runOps_mono (interp_mono E (Nat.le_max_right ..)) g2⟩

theorem traceOps_lim {ops : Array Oper} : ∀ {l : List Oper} {st : St} {ts : List Tr}, traceOps E.T (lim E) E.md ops l st = some ts → ∃ k, traceOps E.T (interp E k) E.md ops l st = some ts
  | [], _, _, he => ⟨0, he⟩
  | o :: l, st, ts, he => by
    simp only [traceOps, Option.bind_eq_some_iff, Option.map_eq_some_iff] at he
    obtain ⟨e, h1, us, h2, h3⟩ := he
    obtain ⟨k1, g1⟩ := stepOp_lim h1
    obtain ⟨k2, g2⟩ := traceOps_lim h2
    refine ⟨max k1 k2, ?_⟩
    simp only [traceOps, Option.bind_eq_some_iff, Option.map_eq_some_iff]
    exact ⟨e, stepOp_mono (interp_mono E (Nat.le_max_left ..)) g1, us, traceOps_mono (interp_mono E (Nat.le_max_right ..)) g2, h3⟩

theorem runRegion_lim {ops : Array Oper} {draw : Bool} {st st' : St} (he : runRegion E.T (lim E) E.md ops draw st = some st') : ∃ k, runRegion E.T (interp E k) E.md ops draw st = some st' := by
  unfold runRegion at he ⊢
  split at he
  · rename_i hd
    simp only [Option.bind_eq_some_iff] at he
    obtain ⟨ts, h1, h2⟩ := he
    obtain ⟨k1, g1⟩ := traceOps_lim h1
    split at h2
    · rename_i hk
      obtain ⟨k2, g2⟩ := runOps_lim h2
      refine ⟨max k1 k2, ?_⟩
      simp only [if_pos hd, Option.bind_eq_some_iff]
      exact ⟨ts, traceOps_mono (interp_mono E (Nat.le_max_left ..)) g1, by rw [if_pos hk]; exact runOps_mono (interp_mono E (Nat.le_max_right ..)) g2⟩
    · cases h2
  · rename_i hd
    obtain ⟨k, hk⟩ := runOps_lim he
    exact ⟨k, by rw [if_neg hd]; exact hk⟩

/-- Code, whatever the rounds. -/
def ExecsTo (E : En) (c : Code) (st : St) (x : Out × St) : Prop := ∃ k, exec E.T (interp E k) E.md k c st = some x

open Classical in
noncomputable def X (E : En) (c : Code) (st : St) : Option (Out × St) := if h : ∃ x, ExecsTo E c st x then some (Classical.choose h) else none

theorem ExecsTo.det {c : Code} {st : St} {x y : Out × St} (hx : ExecsTo E c st x) (hy : ExecsTo E c st y) : x = y := by
  obtain ⟨k, hk⟩ := hx
  obtain ⟨m, hm⟩ := hy
  have a := exec_mono (T := E.T) (md := E.md) (interp_mono E (Nat.le_max_left k m)) (Nat.le_max_left k m) c hk
  have b := exec_mono (T := E.T) (md := E.md) (interp_mono E (Nat.le_max_right k m)) (Nat.le_max_right k m) c hm
  rw [a] at b
  exact Option.some.inj b

theorem X_iff {c : Code} {st : St} {x : Out × St} : X E c st = some x ↔ ExecsTo E c st x := by
  unfold X
  constructor
  · intro h
    split at h
    · rename_i hx
      have := Classical.choose_spec hx
      simp only [Option.some.injEq] at h
      exact h ▸ this
    · cases h
  · intro h
    have hx : ∃ x, ExecsTo E c st x := ⟨x, h⟩
    rw [dif_pos hx]
    exact congrArg some ((Classical.choose_spec hx).det h)

theorem ext_some {α : Type} {a b : Option α} (h : ∀ x, a = some x ↔ b = some x) : a = b := by
  cases a with
  | none => cases b with
    | none => rfl
    | some y => exact absurd ((h y).2 rfl) (by simp)
  | some x => exact ((h x).1 rfl).symm

theorem X_skip (st : St) : X E .skip st = some (.normal, st) := X_iff.2 ⟨0, rfl⟩
theorem X_ret (st : St) : X E .ret st = some (.ret, st) := X_iff.2 ⟨0, rfl⟩
theorem X_exit (id : Nat) (st : St) : X E (.exit id) st = some (.exit id, st) := X_iff.2 ⟨0, rfl⟩
theorem X_label (l : Nat) (st : St) : X E (.label l) st = some (.normal, st) := X_iff.2 ⟨0, rfl⟩

theorem X_region (id : Nat) (ops : Array Oper) (draw : Bool) (st : St) : X E (.region id ops draw) st = (runRegion E.T (lim E) E.md ops draw st).map fun st => (.normal, st) := by
  refine ext_some fun x => X_iff.trans ⟨?_, ?_⟩
  · rintro ⟨k, hk⟩
    simp only [exec, Option.map_eq_some_iff] at hk ⊢
    obtain ⟨s, h1, h2⟩ := hk
    exact ⟨s, runRegion_mono (le_lim E k) h1, h2⟩
  · intro h
    simp only [Option.map_eq_some_iff] at h
    obtain ⟨s, h1, h2⟩ := h
    obtain ⟨k, hk⟩ := runRegion_lim h1
    exact ⟨k, by simp only [exec, Option.map_eq_some_iff]; exact ⟨s, hk, h2⟩⟩

theorem X_seq (a b : Code) (st : St) : X E (.seq a b) st = (X E a st).bind (afterSeq (X E b)) := by
  refine ext_some fun x => X_iff.trans ⟨?_, ?_⟩
  · rintro ⟨k, hk⟩
    simp only [exec, Option.bind_eq_some_iff] at hk ⊢
    obtain ⟨y, h1, h2⟩ := hk
    refine ⟨y, X_iff.2 ⟨k, h1⟩, ?_⟩
    unfold afterSeq at h2 ⊢
    cases hy : y.1 <;> simp only [hy] at h2 ⊢
    · exact X_iff.2 ⟨k, h2⟩
    · exact h2
    · exact h2
  · intro h
    simp only [Option.bind_eq_some_iff] at h
    obtain ⟨y, h1, h2⟩ := h
    obtain ⟨k, hk⟩ := X_iff.1 h1
    unfold afterSeq at h2
    cases hy : y.1 <;> simp only [hy] at h2
    · obtain ⟨m, hm⟩ := X_iff.1 h2
      refine ⟨max k m, ?_⟩
      simp only [exec, Option.bind_eq_some_iff]
      refine ⟨y, exec_mono (interp_mono E (Nat.le_max_left ..)) (Nat.le_max_left ..) _ hk, ?_⟩
      simp only [afterSeq, hy]
      exact exec_mono (interp_mono E (Nat.le_max_right ..)) (Nat.le_max_right ..) _ hm
    · refine ⟨k, ?_⟩
      simp only [exec, Option.bind_eq_some_iff]
      exact ⟨y, hk, by simp only [afterSeq, hy]; exact h2⟩
    · refine ⟨k, ?_⟩
      simp only [exec, Option.bind_eq_some_iff]
      exact ⟨y, hk, by simp only [afterSeq, hy]; exact h2⟩

def condOf (c : Option D) (a b : Option (Out × St)) : Option (Out × St) :=
  match c with
  | some (.bool c) => if c = true then a else b
  | _ => none

theorem X_cond (c : Operand) (a b : Code) (st : St) : X E (.cond c a b) st = condOf (st.ev E.T 0 c) (X E a st) (X E b st) := by
  refine ext_some fun x => X_iff.trans ⟨?_, ?_⟩
  · rintro ⟨k, hk⟩
    simp only [exec, Option.bind_eq_some_iff] at hk
    obtain ⟨d, h1, h2⟩ := hk
    rw [h1]
    cases d <;> simp only at h2 <;> try (cases h2; done)
    simp only [condOf]
    split at h2
    · rename_i hc; rw [if_pos hc]; exact X_iff.2 ⟨k, h2⟩
    · rename_i hc; rw [if_neg hc]; exact X_iff.2 ⟨k, h2⟩
  · intro h
    cases hd : st.ev E.T 0 c with
    | none => rw [hd] at h; cases h
    | some d =>
      rw [hd] at h
      cases d <;> simp only [condOf] at h <;> try (cases h; done)
      split at h
      · rename_i hc
        obtain ⟨k, hk⟩ := X_iff.1 h
        exact ⟨k, by simp only [exec, hd, Option.bind_some]; rw [if_pos hc]; exact hk⟩
      · rename_i hc
        obtain ⟨k, hk⟩ := X_iff.1 h
        exact ⟨k, by simp only [exec, hd, Option.bind_some]; rw [if_neg hc]; exact hk⟩

theorem X_block (id : Nat) (c : Code) (st : St) : X E (.block id c) st = (X E c st).map (afterBlock id) := by
  refine ext_some fun x => X_iff.trans ⟨?_, ?_⟩
  · rintro ⟨k, hk⟩
    simp only [exec, Option.map_eq_some_iff] at hk ⊢
    obtain ⟨y, h1, h2⟩ := hk
    exact ⟨y, X_iff.2 ⟨k, h1⟩, h2⟩
  · intro h
    simp only [Option.map_eq_some_iff] at h
    obtain ⟨y, h1, h2⟩ := h
    obtain ⟨k, hk⟩ := X_iff.1 h1
    exact ⟨k, by simp only [exec, Option.map_eq_some_iff]; exact ⟨y, hk, h2⟩⟩

theorem X_loop (c : Code) (st : St) : X E (.loop c) st = (X E c st).bind (afterSeq (X E (.loop c))) := by
  refine ext_some fun x => X_iff.trans ⟨?_, ?_⟩
  · rintro ⟨k, hk⟩
    simp only [exec] at hk
    cases k with
    | zero => cases hk
    | succ k =>
      rw [execLoop] at hk
      simp only [Option.bind_eq_some_iff] at hk ⊢
      obtain ⟨y, h1, h2⟩ := hk
      refine ⟨y, X_iff.2 ⟨k + 1, h1⟩, ?_⟩
      unfold afterSeq
      cases hy : y.1 <;> simp only [hy] at h2 ⊢
      · exact X_iff.2 ⟨k + 1, by simp only [exec]; exact execLoop_mono (fun _ _ h => h) (by omega) h2⟩
      · exact h2
      · exact h2
  · intro h
    simp only [Option.bind_eq_some_iff] at h
    obtain ⟨y, h1, h2⟩ := h
    obtain ⟨k, hk⟩ := X_iff.1 h1
    unfold afterSeq at h2
    cases hy : y.1 <;> simp only [hy] at h2
    · obtain ⟨m, hm⟩ := X_iff.1 h2
      refine ⟨max k m + 1, ?_⟩
      simp only [exec] at hm ⊢
      rw [execLoop]
      simp only [Option.bind_eq_some_iff]
      refine ⟨y, exec_mono (interp_mono E (by omega)) (by omega) _ hk, ?_⟩
      simp only [hy]
      exact execLoop_mono (fun st x hx => exec_mono (interp_mono E (by omega)) (by omega) _ hx) (by omega) hm
    · refine ⟨k + 1, ?_⟩
      simp only [exec]
      rw [execLoop]
      simp only [Option.bind_eq_some_iff]
      exact ⟨y, exec_mono (interp_mono E (by omega)) (by omega) _ hk, by simp only [hy]; exact h2⟩
    · refine ⟨k + 1, ?_⟩
      simp only [exec]
      rw [execLoop]
      simp only [Option.bind_eq_some_iff]
      exact ⟨y, exec_mono (interp_mono E (by omega)) (by omega) _ hk, by simp only [hy]; exact h2⟩

theorem interp_at (E : En) (f : Nat) : ∀ k, interp (E.at f) k = interp E k
  | 0 => rfl
  | k + 1 => by
    funext g args
    simp only [interp, interp_at E f k]
    rfl
theorem lim_at (E : En) (f : Nat) : lim (E.at f) = lim E := by
  funext g args
  refine ext_some fun r => lim_iff.trans (Iff.trans ?_ lim_iff.symm)
  simp only [interp_at]

theorem lim_body {f : Nat} {args : List D} {fn : Func} {c : Code} (hx : E.ext f = none) (hf : E.P.funcs[f]? = some fn) (hc : fn.body = some c) (hk : codeOk fn.ntmps c = true) (hn : (fn.name == "runtime.NumGoroutine") = false) :
    lim E f args = (X (E.at f) c (initSt (E.md f) args)).bind (atEnd (E.tb f) (E.md f) (E.fz f) fn.results.toList) := by
  have hi : ∀ k, interp (E.at f) k = interp E k := interp_at E f
  refine ext_some fun r => lim_iff.trans ⟨?_, ?_⟩
  · rintro ⟨k, hk'⟩
    cases k with
    | zero => cases hk'
    | succ k =>
      simp only [interp, hx, hf, hc, hk, hn, Bool.not_false, Bool.and_true, Bool.true_eq_false, if_false, Option.bind_some, Option.bind_eq_some_iff] at hk' ⊢
      obtain ⟨y, h1, h2⟩ := hk'
      exact ⟨y, X_iff.2 ⟨k, by rw [hi]; exact h1⟩, h2⟩
  · intro h
    simp only [Option.bind_eq_some_iff] at h
    obtain ⟨y, h1, h2⟩ := h
    obtain ⟨k, hk'⟩ := X_iff.1 h1
    rw [hi] at hk'
    exact ⟨k + 1, by simp only [interp, hx, hf, hc, hk, hn, Bool.not_false, Bool.and_true, Bool.true_eq_false, if_false, Option.bind_some, Option.bind_eq_some_iff]; exact ⟨y, hk', h2⟩⟩

theorem lim_ext {f : Nat} {args : List D} {g : List D → Option (D × List D)} (hx : E.ext f = some g) : lim E f args = g args := by
  refine ext_some fun r => lim_iff.trans ⟨?_, ?_⟩
  · rintro ⟨k, hk⟩
    cases k with
    | zero => cases hk
    | succ k => simpa only [interp, hx] using hk
  · intro h
    exact ⟨1, by simpa only [interp, hx] using h⟩
end

end Go.Lft

/- How data lie in memory: what is read alone, and what is a frame's own. -/
namespace Go.Lft

def CellsAt (w : World) (a : Addr) (cs : List Value) : Prop := ∀ j (h : j < cs.length), w.cell? (a.add j) = some cs[j]

mutual
/-- These cells tell this datum; what they lead to lies in blocks of 'Fz', which nobody writes. -/
def FRep (w : World) (Fz : Nat → Prop) (cs : List Value) : D → Prop
  | .int k n => cs = [.int k n]
  | .bool b => cs = [.bool b]
  | .str s => cs = [.string ⟨s.toArray⟩]
  | .agg xs => FRepL w Fz cs xs
  | .lst true _ _ xs => xs = [] ∧ cs = [.slice none 0 0]
  | .lst false _ e xs => ∃ a cap, cs = [.slice a xs.length cap] ∧ xs.length ≤ cap ∧ FItems w Fz a e 0 xs
  | .fn f caps => ∃ capt : List Value, cs = [.func (.func f) #[] capt.toArray] ∧ FCaps w Fz capt caps
  | .ifc b => ∃ v, cs = [v] ∧ (if b = true then v = .nilIface else ∃ t x, v = .iface t x)
  | .pto x => ∃ a c, cs = [.pointer (some a)] ∧ Fz a.block ∧ CellsAt w a c ∧ FRep w Fz c x
  | .ptr .. => False
  | .slc .. => False
  | .tup _ => False
  | .undef => ∃ v, cs = [v] ∧ v.oneCell' = true
def FRepL (w : World) (Fz : Nat → Prop) (cs : List Value) : List D → Prop
  | [] => cs = []
  | x :: xs => ∃ c1 c2, cs = c1 ++ c2 ∧ FRep w Fz c1 x ∧ FRepL w Fz c2 xs
def FItems (w : World) (Fz : Nat → Prop) (a : Option Addr) (e i : Nat) : List D → Prop
  | [] => True
  | x :: xs => (∃ ad c, a = some ad ∧ Fz ad.block ∧ c.length = e ∧ CellsAt w (ad.add (i * e)) c ∧ FRep w Fz c x) ∧ FItems w Fz a e (i + 1) xs
def FCaps (w : World) (Fz : Nat → Prop) (vs : List Value) : List D → Prop
  | [] => vs = []
  | x :: xs => ∃ v vs', vs = v :: vs' ∧ FRep w Fz [v] x ∧ FCaps w Fz vs' xs
end

theorem D.size_of_not_agg {d : D} (h : isAgg d = false) : D.size d = 1 := by
  cases d <;> simp_all [isAgg, D.size]

mutual
theorem FRep.len {w : World} {Fz : Nat → Prop} : ∀ {d : D} {cs : List Value}, FRep w Fz cs d → cs.length = D.size d
  | .int k n, cs, h => by simp only [FRep] at h; subst h; simp [D.size]
  | .bool b, cs, h => by simp only [FRep] at h; subst h; simp [D.size]
  | .str s, cs, h => by simp only [FRep] at h; subst h; simp [D.size]
  | .agg xs, cs, h => by simp only [FRep] at h; simp only [D.size]; exact FRepL.len h
  | .lst true _ _ xs, cs, h => by simp only [FRep] at h; obtain ⟨_, rfl⟩ := h; simp [D.size]
  | .lst false _ e xs, cs, h => by simp only [FRep] at h; obtain ⟨_, _, rfl, _⟩ := h; simp [D.size]
  | .fn f caps, cs, h => by simp only [FRep] at h; obtain ⟨_, rfl, _⟩ := h; simp [D.size]
  | .ifc b, cs, h => by simp only [FRep] at h; obtain ⟨_, rfl, _⟩ := h; simp [D.size]
  | .pto x, cs, h => by simp only [FRep] at h; obtain ⟨_, _, rfl, _⟩ := h; simp [D.size]
  | .ptr .., cs, h => by simp only [FRep] at h
  | .slc .., cs, h => by simp only [FRep] at h
  | .tup _, cs, h => by simp only [FRep] at h
  | .undef, cs, h => by simp only [FRep] at h; obtain ⟨_, rfl, _⟩ := h; simp [D.size]
theorem FRepL.len {w : World} {Fz : Nat → Prop} : ∀ {xs : List D} {cs : List Value}, FRepL w Fz cs xs → cs.length = D.sizeL xs
  | [], cs, h => by simp only [FRepL] at h; subst h; simp [D.sizeL]
  | x :: xs, cs, h => by
    simp only [FRepL] at h
    obtain ⟨c1, c2, rfl, h1, h2⟩ := h
    simp only [List.length_append, D.sizeL, FRep.len h1, FRepL.len h2]
end

theorem add_block (a : Addr) (n : Nat) : (a.add n).block = a.block := by unfold Addr.add; split <;> rfl

theorem CellsAt.stab {w w' : World} {a : Addr} {cs : List Value} (h : CellsAt w a cs) (hb : w'.heap[a.block]? = w.heap[a.block]?) : CellsAt w' a cs := by
  intro j hj
  rw [← h j hj]
  exact World.cell?_of_block (by rw [add_block]; exact hb)

mutual
theorem FRep.stab {w w' : World} {Fz Fz' : Nat → Prop} (hw : ∀ g, Fz g → w'.heap[g]? = w.heap[g]?) (hf : ∀ g, Fz g → Fz' g) : ∀ {d : D} {cs : List Value}, FRep w Fz cs d → FRep w' Fz' cs d
  | .int k n, cs, h => by simp only [FRep] at h ⊢; exact h
  | .bool b, cs, h => by simp only [FRep] at h ⊢; exact h
  | .str s, cs, h => by simp only [FRep] at h ⊢; exact h
  | .agg xs, cs, h => by simp only [FRep] at h ⊢; exact FRepL.stab hw hf h
  | .lst true _ _ xs, cs, h => by simp only [FRep] at h ⊢; exact h
  | .lst false _ e xs, cs, h => by simp only [FRep] at h ⊢; obtain ⟨a, cap, h1, h2, h3⟩ := h; exact ⟨a, cap, h1, h2, FItems.stab hw hf h3⟩
  | .fn f caps, cs, h => by simp only [FRep] at h ⊢; obtain ⟨capt, h1, h2⟩ := h; exact ⟨capt, h1, FCaps.stab hw hf h2⟩
  | .ifc b, cs, h => by simp only [FRep] at h ⊢; exact h
  | .pto x, cs, h => by simp only [FRep] at h ⊢; obtain ⟨a, c, h1, h2, h3, h4⟩ := h; exact ⟨a, c, h1, hf _ h2, h3.stab (hw _ h2), FRep.stab hw hf h4⟩
  | .ptr .., cs, h => by simp only [FRep] at h
  | .slc .., cs, h => by simp only [FRep] at h
  | .tup _, cs, h => by simp only [FRep] at h
  | .undef, cs, h => by simp only [FRep] at h ⊢; exact h
theorem FRepL.stab {w w' : World} {Fz Fz' : Nat → Prop} (hw : ∀ g, Fz g → w'.heap[g]? = w.heap[g]?) (hf : ∀ g, Fz g → Fz' g) : ∀ {xs : List D} {cs : List Value}, FRepL w Fz cs xs → FRepL w' Fz' cs xs
  | [], cs, h => by simp only [FRepL] at h ⊢; exact h
  | x :: xs, cs, h => by
    simp only [FRepL] at h ⊢
    obtain ⟨c1, c2, h0, h1, h2⟩ := h
    exact ⟨c1, c2, h0, FRep.stab hw hf h1, FRepL.stab hw hf h2⟩
theorem FItems.stab {w w' : World} {Fz Fz' : Nat → Prop} (hw : ∀ g, Fz g → w'.heap[g]? = w.heap[g]?) (hf : ∀ g, Fz g → Fz' g) {a : Option Addr} {e : Nat} : ∀ {xs : List D} {i : Nat}, FItems w Fz a e i xs → FItems w' Fz' a e i xs
  | [], i, h => by simp only [FItems]
  | x :: xs, i, h => by
    simp only [FItems] at h ⊢
    obtain ⟨⟨ad, c, h0, h1, h2, h3, h4⟩, h5⟩ := h
    exact ⟨⟨ad, c, h0, hf _ h1, h2, h3.stab (by rw [add_block]; exact hw _ h1), FRep.stab hw hf h4⟩, FItems.stab hw hf h5⟩
theorem FCaps.stab {w w' : World} {Fz Fz' : Nat → Prop} (hw : ∀ g, Fz g → w'.heap[g]? = w.heap[g]?) (hf : ∀ g, Fz g → Fz' g) : ∀ {xs : List D} {vs : List Value}, FCaps w Fz vs xs → FCaps w' Fz' vs xs
  | [], vs, h => by simp only [FCaps] at h ⊢; exact h
  | x :: xs, vs, h => by
    simp only [FCaps] at h ⊢
    obtain ⟨v, vs', h0, h1, h2⟩ := h
    exact ⟨v, vs', h0, FRep.stab hw hf h1, FCaps.stab hw hf h2⟩
end

theorem FItems.get {w : World} {Fz : Nat → Prop} {a : Option Addr} {e : Nat} : ∀ {xs : List D} {i : Nat}, FItems w Fz a e i xs → ∀ (j : Nat) (x : D), xs[j]? = some x →
    ∃ ad c, a = some ad ∧ Fz ad.block ∧ c.length = e ∧ CellsAt w (ad.add ((i + j) * e)) c ∧ FRep w Fz c x
  | [], i, h, j, x, hx => by simp at hx
  | y :: ys, i, h, 0, x, hx => by
    simp only [FItems] at h
    simp only [List.getElem?_cons_zero, Option.some.injEq] at hx
    subst hx
    exact h.1
  | y :: ys, i, h, j + 1, x, hx => by
    simp only [FItems] at h
    simp only [List.getElem?_cons_succ] at hx
    have := FItems.get h.2 j x hx
    rwa [show i + 1 + j = i + (j + 1) by omega] at this

theorem FItems.mk {w : World} {Fz : Nat → Prop} {a : Option Addr} {e : Nat} : ∀ {xs : List D} {i : Nat}, (∀ (j : Nat) (x : D), xs[j]? = some x → ∃ ad c, a = some ad ∧ Fz ad.block ∧ c.length = e ∧ CellsAt w (ad.add ((i + j) * e)) c ∧ FRep w Fz c x) → FItems w Fz a e i xs
  | [], i, h => by simp only [FItems]
  | y :: ys, i, h => by
    simp only [FItems]
    refine ⟨by simpa using h 0 y rfl, FItems.mk fun j x hx => ?_⟩
    have := h (j + 1) x (by simpa using hx)
    rwa [show i + (j + 1) = i + 1 + j by omega] at this

theorem add_add (a : Addr) (i j : Nat) : (a.add i).add j = a.add (i + j) := by
  unfold Addr.add
  by_cases hi : i = 0
  · subst hi; simp
  · by_cases hj : j = 0
    · subst hj; simp [hi]
    · simp [hi, hj, Nat.add_assoc]

/-- A part of what is read. -/
theorem FRep.sub {w : World} {Fz : Nat → Prop} {te e : Nat} {xs : List D} {a : Option Addr} (h : FItems w Fz a e 0 xs) (off len : Nat) (hl : off + len ≤ xs.length) (a' : Option Addr) (c : Nat) (hc : len ≤ c)
    (ha : 0 < len → a' = a.map (·.add (off * e))) : FRep w Fz [.slice a' len c] (.lst false te e ((xs.drop off).take len)) := by
  have hlen : ((xs.drop off).take len).length = len := by simp; omega
  simp only [FRep, hlen]
  refine ⟨a', c, rfl, hc, FItems.mk fun j x hx => ?_⟩
  have hj : j < len := by
    rcases Nat.lt_or_ge j len with h | h
    · exact h
    · rw [List.getElem?_eq_none (by omega)] at hx; cases hx
  rw [List.getElem?_take_of_lt hj, List.getElem?_drop] at hx
  obtain ⟨ad, cs, h0, h1, h2, h3, h4⟩ := h.get (off + j) x hx
  refine ⟨ad.add (off * e), cs, by rw [ha (by omega), h0]; rfl, by rw [add_block]; exact h1, h2, ?_, h4⟩
  rw [add_add]
  rwa [show off * e + (0 + j) * e = (0 + (off + j)) * e by rw [← Nat.add_mul]; congr 1; omega]

/-! ### What is one's own -/
/-- A datum and the blocks that bear it. -/
inductive M where
  | leaf (v : Value) (d : D)
  | agg (xs : List M)
  | lst (g tg te e : Nat) (xs : List M) (rest : List Value) (fr : Nat × Nat)

mutual
def M.cells : M → List Value
  | .leaf v _ => [v]
  | .agg xs => M.cellsL xs
  | .lst g _ _ e xs rest _ => [.slice (some ⟨g, 0, none⟩) xs.length (xs.length + rest.length / e)]
def M.cellsL : List M → List Value
  | [] => []
  | x :: xs => M.cells x ++ M.cellsL xs
end
mutual
def M.data : M → D
  | .leaf _ d => d
  | .agg xs => .agg (M.dataL xs)
  | .lst _ tg _ e xs _ _ => .lst true tg e (M.dataL xs)
def M.dataL : List M → List D
  | [] => []
  | x :: xs => M.data x :: M.dataL xs
end
mutual
def M.ids : M → List Nat
  | .leaf _ _ => []
  | .agg xs => M.idsL xs
  | .lst g _ _ _ xs _ _ => g :: M.idsL xs
def M.idsL : List M → List Nat
  | [] => []
  | x :: xs => M.ids x ++ M.idsL xs
end

def rowObj (te : Nat) (cs : List Value) (fr : Nat × Nat) : Obj := .cells cs.toArray te fr

def frOk (fr : Nat × Nat) (n : Nat) : Prop := ∀ i, i < n → ¬ (fr.1 ≤ i ∧ i < fr.2)

mutual
/-- The heap bears it. -/
def M.In (w : World) : M → Prop
  | .leaf _ _ => True
  | .agg xs => M.InL w xs
  | .lst g _ te _ xs rest fr => w.heap[g]? = some (rowObj te (M.cellsL xs ++ rest) fr) ∧ M.InL w xs
def M.InL (w : World) : List M → Prop
  | [] => True
  | x :: xs => M.In w x ∧ M.InL w xs
end

mutual
/-- It is in form. -/
def M.Ok (w : World) (Fz : Nat → Prop) : M → Prop
  | .leaf v d => FRep w Fz [v] d ∧ isAgg d = false
  | .agg xs => M.OkL w Fz xs
  | .lst g tg te e xs rest fr => 0 < e ∧ M.OkL w Fz xs ∧ (∀ x ∈ xs, (M.cells x).length = e) ∧ (∃ k, rest.length = k * e ∧ xs.length + k ≤ maxLen) ∧ (tg < 1000000 → te = tg ∧ fr = (0, 0)) ∧ frOk fr (xs.length * e + rest.length)
def M.OkL (w : World) (Fz : Nat → Prop) : List M → Prop
  | [] => True
  | x :: xs => M.Ok w Fz x ∧ M.OkL w Fz xs
end

theorem M.dataL_map : ∀ (xs : List M), M.dataL xs = xs.map M.data
  | [] => rfl
  | x :: xs => by simp [M.dataL, M.dataL_map xs]
theorem M.dataL_length (xs : List M) : (M.dataL xs).length = xs.length := by rw [M.dataL_map]; simp
theorem M.cellsL_append : ∀ (xs ys : List M), M.cellsL (xs ++ ys) = M.cellsL xs ++ M.cellsL ys
  | [], ys => rfl
  | x :: xs, ys => by simp [M.cellsL, M.cellsL_append xs ys]
theorem M.idsL_append : ∀ (xs ys : List M), M.idsL (xs ++ ys) = M.idsL xs ++ M.idsL ys
  | [], ys => rfl
  | x :: xs, ys => by simp [M.idsL, M.idsL_append xs ys]
theorem M.InL_append {w : World} : ∀ {xs ys : List M}, M.InL w (xs ++ ys) ↔ M.InL w xs ∧ M.InL w ys
  | [], ys => by simp [M.InL]
  | x :: xs, ys => by simp only [List.cons_append, M.InL, M.InL_append (xs := xs), and_assoc]
theorem M.OkL_append {w : World} {Fz : Nat → Prop} : ∀ {xs ys : List M}, M.OkL w Fz (xs ++ ys) ↔ M.OkL w Fz xs ∧ M.OkL w Fz ys
  | [], ys => by simp [M.OkL]
  | x :: xs, ys => by simp only [List.cons_append, M.OkL, M.OkL_append (xs := xs), and_assoc]
theorem M.InL_iff {w : World} : ∀ {xs : List M}, M.InL w xs ↔ ∀ x ∈ xs, M.In w x
  | [] => by simp [M.InL]
  | x :: xs => by simp [M.InL, M.InL_iff (xs := xs)]
theorem M.OkL_iff {w : World} {Fz : Nat → Prop} : ∀ {xs : List M}, M.OkL w Fz xs ↔ ∀ x ∈ xs, M.Ok w Fz x
  | [] => by simp [M.OkL]
  | x :: xs => by simp [M.OkL, M.OkL_iff (xs := xs)]
theorem M.mem_idsL {g : Nat} : ∀ {xs : List M}, g ∈ M.idsL xs ↔ ∃ x ∈ xs, g ∈ M.ids x
  | [] => by simp [M.idsL]
  | x :: xs => by simp [M.idsL, M.mem_idsL (xs := xs)]

mutual
theorem M.len {w : World} {Fz : Nat → Prop} : ∀ {m : M}, M.Ok w Fz m → (M.cells m).length = D.size (M.data m)
  | .leaf v d, h => by simp only [M.Ok] at h; simp [M.cells, M.data, D.size_of_not_agg h.2]
  | .agg xs, h => by simp only [M.Ok] at h; simp only [M.cells, M.data, D.size]; exact M.lenL h
  | .lst g tg te e xs rest fr, h => by simp [M.cells, M.data, D.size]
theorem M.lenL {w : World} {Fz : Nat → Prop} : ∀ {xs : List M}, M.OkL w Fz xs → (M.cellsL xs).length = D.sizeL (M.dataL xs)
  | [], h => by simp [M.cellsL, M.dataL, D.sizeL]
  | x :: xs, h => by simp only [M.OkL] at h; simp only [M.cellsL, M.dataL, D.sizeL, List.length_append, M.len h.1, M.lenL h.2]
end

theorem M.cellsL_len {e : Nat} : ∀ {xs : List M}, (∀ x ∈ xs, (M.cells x).length = e) → (M.cellsL xs).length = xs.length * e
  | [], _ => by simp [M.cellsL]
  | x :: xs, h => by
    simp only [M.cellsL, List.length_append, List.length_cons, M.cellsL_len (xs := xs) (fun y hy => h y (List.mem_cons_of_mem _ hy)), h x (List.mem_cons_self ..)]
    rw [Nat.succ_mul]; omega

mutual
theorem M.In.stab {w w' : World} : ∀ {m : M}, (∀ g ∈ M.ids m, w'.heap[g]? = w.heap[g]?) → M.In w m → M.In w' m
  | .leaf v d, _, _ => by simp only [M.In]
  | .agg xs, hw, h => by simp only [M.In, M.ids] at *; exact M.InL.stab hw h
  | .lst g tg te e xs rest fr, hw, h => by
    simp only [M.In, M.ids] at *
    exact ⟨(hw g (List.mem_cons_self ..)).trans h.1, M.InL.stab (fun x hx => hw x (List.mem_cons_of_mem _ hx)) h.2⟩
theorem M.InL.stab {w w' : World} : ∀ {xs : List M}, (∀ g ∈ M.idsL xs, w'.heap[g]? = w.heap[g]?) → M.InL w xs → M.InL w' xs
  | [], _, _ => by simp only [M.InL]
  | x :: xs, hw, h => by
    simp only [M.InL, M.idsL] at *
    exact ⟨M.In.stab (fun g hg => hw g (List.mem_append_left _ hg)) h.1, M.InL.stab (fun g hg => hw g (List.mem_append_right _ hg)) h.2⟩
end
mutual
theorem M.Ok.stab {w w' : World} {Fz Fz' : Nat → Prop} (hw : ∀ g, Fz g → w'.heap[g]? = w.heap[g]?) (hf : ∀ g, Fz g → Fz' g) : ∀ {m : M}, M.Ok w Fz m → M.Ok w' Fz' m
  | .leaf v d, h => by simp only [M.Ok] at *; exact ⟨h.1.stab hw hf, h.2⟩
  | .agg xs, h => by simp only [M.Ok] at *; exact M.OkL.stab hw hf h
  | .lst g tg te e xs rest fr, h => by simp only [M.Ok] at *; exact ⟨h.1, M.OkL.stab hw hf h.2.1, h.2.2⟩
theorem M.OkL.stab {w w' : World} {Fz Fz' : Nat → Prop} (hw : ∀ g, Fz g → w'.heap[g]? = w.heap[g]?) (hf : ∀ g, Fz g → Fz' g) : ∀ {xs : List M}, M.OkL w Fz xs → M.OkL w' Fz' xs
  | [], h => by simp only [M.OkL]
  | x :: xs, h => by simp only [M.OkL] at *; exact ⟨M.Ok.stab hw hf h.1, M.OkL.stab hw hf h.2⟩
end

mutual
theorem M.In.lt {w : World} : ∀ {m : M}, M.In w m → ∀ g ∈ M.ids m, g < w.heap.size
  | .leaf v d, _, g, hg => by simp [M.ids] at hg
  | .agg xs, h, g, hg => by simp only [M.In, M.ids] at h hg; exact M.InL.lt h g hg
  | .lst g' tg te e xs rest fr, h, g, hg => by
    simp only [M.In, M.ids, List.mem_cons] at h hg
    rcases hg with rfl | hg
    · exact (Array.getElem?_eq_some_iff.1 h.1).1
    · exact M.InL.lt h.2 g hg
theorem M.InL.lt {w : World} : ∀ {xs : List M}, M.InL w xs → ∀ g ∈ M.idsL xs, g < w.heap.size
  | [], _, g, hg => by simp [M.idsL] at hg
  | x :: xs, h, g, hg => by
    simp only [M.InL, M.idsL, List.mem_append] at h hg
    rcases hg with hg | hg
    · exact M.In.lt h.1 g hg
    · exact M.InL.lt h.2 g hg
end

/-! ### Parts -/
def M.get : M → List Stp → Option M
  | m, [] => some m
  | .agg xs, .fld i :: p => (xs[i]?).bind fun x => M.get x p
  | .lst _ _ _ _ xs _ _, .elm i :: p => (xs[i]?).bind fun x => M.get x p
  | _, _ :: _ => none

def M.put : M → List Stp → M → M
  | _, [], y => y
  | .agg xs, .fld i :: p, y => match xs[i]? with | some x => .agg (xs.set i (M.put x p y)) | none => .agg xs
  | .lst g tg te e xs rest fr, .elm i :: p, y => match xs[i]? with | some x => .lst g tg te e (xs.set i (M.put x p y)) rest fr | none => .lst g tg te e xs rest fr
  | m, _ :: _, _ => m

/-- Where a part lies: its block and its first cell. -/
def M.at_ : M → Nat → Nat → List Stp → Option (Nat × Nat)
  | _, g, o, [] => some (g, o)
  | .agg xs, g, o, .fld i :: p => (xs[i]?).bind fun x => M.at_ x g (o + (M.cellsL (xs.take i)).length) p
  | .lst g' _ _ e xs _ _, _, _, .elm i :: p => (xs[i]?).bind fun x => M.at_ x g' (i * e) p
  | _, _, _, _ :: _ => none

theorem M.get_nil (m : M) : M.get m [] = some m := by cases m <;> rfl
theorem M.put_nil (m y : M) : M.put m [] y = y := by cases m <;> rfl
theorem M.at_nil (m : M) (g o : Nat) : M.at_ m g o [] = some (g, o) := by cases m <;> rfl
theorem D.get_nil (d : D) : D.get d [] = some d := by cases d <;> rfl
theorem D.put_nil (d y : D) : D.put d [] y = some y := by cases d <;> rfl

theorem M.dataL_get {xs : List M} {i : Nat} {d : D} (h : (M.dataL xs)[i]? = some d) : ∃ x, xs[i]? = some x ∧ M.data x = d := by
  rw [M.dataL_map, List.getElem?_map, Option.map_eq_some_iff] at h
  exact h
theorem M.dataL_set (xs : List M) (i : Nat) (y : M) : M.dataL (xs.set i y) = (M.dataL xs).set i (M.data y) := by
  rw [M.dataL_map, M.dataL_map, List.map_set]
theorem M.OkL.get {w : World} {Fz : Nat → Prop} {xs : List M} (h : M.OkL w Fz xs) {i : Nat} {x : M} (hx : xs[i]? = some x) : M.Ok w Fz x :=
  M.OkL_iff.1 h x (List.mem_of_getElem? hx)
theorem M.InL.get {w : World} {xs : List M} (h : M.InL w xs) {i : Nat} {x : M} (hx : xs[i]? = some x) : M.In w x :=
  M.InL_iff.1 h x (List.mem_of_getElem? hx)

/-- What the data have at a place, the memory has. -/
theorem M.get_data {w : World} {Fz : Nat → Prop} : ∀ (p : List Stp) {m : M} {d : D}, M.Ok w Fz m → D.get (M.data m) p = some d → ∃ m', M.get m p = some m' ∧ M.data m' = d ∧ M.Ok w Fz m'
  | [], m, d, hm, h => by
    rw [D.get_nil] at h
    exact ⟨m, M.get_nil m, Option.some.inj h, hm⟩
  | s :: p, m, d, hm, h => by
    cases m with
    | leaf v d0 =>
      simp only [M.Ok] at hm
      simp only [M.data] at h
      cases d0 <;> cases s <;> simp [D.get, isAgg] at h hm
      rename_i o te e xs i
      cases o <;> simp [D.get] at h
      simp only [FRep] at hm
      rw [hm.1] at h
      simp at h
    | agg xs =>
      simp only [M.Ok] at hm
      simp only [M.data] at h
      cases s with
      | elm i => simp [D.get] at h
      | fld i =>
        simp only [D.get, Option.bind_eq_some_iff] at h
        obtain ⟨x, h1, h2⟩ := h
        obtain ⟨y, h3, rfl⟩ := M.dataL_get h1
        obtain ⟨m', h4, h5⟩ := M.get_data p (hm.get h3) h2
        exact ⟨m', by simp [M.get, h3, h4], h5⟩
    | lst g tg te e xs rest fr =>
      simp only [M.Ok] at hm
      simp only [M.data] at h
      cases s with
      | fld i => simp [D.get] at h
      | elm i =>
        simp only [D.get, Option.bind_eq_some_iff] at h
        obtain ⟨x, h1, h2⟩ := h
        obtain ⟨y, h3, rfl⟩ := M.dataL_get h1
        obtain ⟨m', h4, h5⟩ := M.get_data p (hm.2.1.get h3) h2
        exact ⟨m', by simp [M.get, h3, h4], h5⟩

theorem M.get_at : ∀ (p : List Stp) {m m' : M} (g o : Nat), M.get m p = some m' → ∃ g' o', M.at_ m g o p = some (g', o')
  | [], m, m', g, o, h => ⟨g, o, M.at_nil m g o⟩
  | s :: p, m, m', g, o, h => by
    cases m with
    | leaf v d => cases s <;> simp [M.get] at h
    | agg xs =>
      cases s with
      | elm i => simp [M.get] at h
      | fld i =>
        simp only [M.get, Option.bind_eq_some_iff] at h
        obtain ⟨x, h1, h2⟩ := h
        obtain ⟨g', o', h3⟩ := M.get_at p g (o + (M.cellsL (xs.take i)).length) h2
        exact ⟨g', o', by simp [M.at_, h1, h3]⟩
    | lst g1 tg te e xs rest fr =>
      cases s with
      | fld i => simp [M.get] at h
      | elm i =>
        simp only [M.get, Option.bind_eq_some_iff] at h
        obtain ⟨x, h1, h2⟩ := h
        obtain ⟨g', o', h3⟩ := M.get_at p g1 (i * e) h2
        exact ⟨g', o', by simp [M.at_, h1, h3]⟩

theorem M.get_data' : ∀ (p : List Stp) {m m' : M}, M.get m p = some m' → D.get (M.data m) p = some (M.data m')
  | [], m, m', h => by rw [M.get_nil] at h; rw [D.get_nil, Option.some.inj h]
  | s :: p, m, m', h => by
    cases m with
    | leaf v d => cases s <;> simp [M.get] at h
    | agg xs =>
      cases s with
      | elm i => simp [M.get] at h
      | fld i =>
        simp only [M.get, Option.bind_eq_some_iff] at h
        obtain ⟨x, h1, h2⟩ := h
        simp only [M.data, D.get, Option.bind_eq_some_iff]
        exact ⟨M.data x, by rw [M.dataL_map, List.getElem?_map, h1]; rfl, M.get_data' p h2⟩
    | lst g1 tg te e xs rest fr =>
      cases s with
      | fld i => simp [M.get] at h
      | elm i =>
        simp only [M.get, Option.bind_eq_some_iff] at h
        obtain ⟨x, h1, h2⟩ := h
        simp only [M.data, D.get, Option.bind_eq_some_iff]
        exact ⟨M.data x, by rw [M.dataL_map, List.getElem?_map, h1]; rfl, M.get_data' p h2⟩

theorem M.put_data : ∀ (p : List Stp) {m m' y : M} (_ : M.get m p = some m'), D.put (M.data m) p (M.data y) = some (M.data (M.put m p y))
  | [], m, m', y, h => by rw [M.put_nil, D.put_nil]
  | s :: p, m, m', y, h => by
    cases m with
    | leaf v d => cases s <;> simp [M.get] at h
    | agg xs =>
      cases s with
      | elm i => simp [M.get] at h
      | fld i =>
        simp only [M.get, Option.bind_eq_some_iff] at h
        obtain ⟨x, h1, h2⟩ := h
        have := M.put_data p (y := y) h2
        simp only [M.data, M.put, h1, D.put, Option.bind_eq_some_iff, Option.map_eq_some_iff]
        exact ⟨M.data x, by rw [M.dataL_map, List.getElem?_map, h1]; rfl, _, this, by rw [M.dataL_set]⟩
    | lst g1 tg te e xs rest fr =>
      cases s with
      | fld i => simp [M.get] at h
      | elm i =>
        simp only [M.get, Option.bind_eq_some_iff] at h
        obtain ⟨x, h1, h2⟩ := h
        have := M.put_data p (y := y) h2
        simp only [M.data, M.put, h1, D.put, Option.bind_eq_some_iff, Option.map_eq_some_iff]
        exact ⟨M.data x, by rw [M.dataL_map, List.getElem?_map, h1]; rfl, _, this, by rw [M.dataL_set]⟩

/-! ### Cells in blocks -/
/-- From cell o on, the block g has these cells, and a store there goes through. -/
def Lies (w : World) (g o : Nat) (cs : List Value) : Prop := ∃ te fr, ∃ L R : List Value, L.length = o ∧ w.heap[g]? = some (rowObj te (L ++ cs ++ R) fr) ∧ frOk fr (L.length + cs.length + R.length)

theorem Lies.sub {w : World} {g o : Nat} {a b c : List Value} (h : Lies w g o (a ++ b ++ c)) : Lies w g (o + a.length) b := by
  obtain ⟨te, fr, L, R, h1, h2, h3⟩ := h
  refine ⟨te, fr, L ++ a, c ++ R, by simp [h1], ?_, ?_⟩
  · rw [h2]; simp [List.append_assoc]
  · intro i hi; exact h3 i (by simp at hi ⊢; omega)

theorem Lies.cells {w : World} {g o : Nat} {cs : List Value} (h : Lies w g o cs) : CellsAt w ⟨g, o, none⟩ cs := by
  obtain ⟨te, fr, L, R, h1, h2, h3⟩ := h
  intro j hj
  have ha : (⟨g, o, none⟩ : Addr).add j = ⟨g, o + j, none⟩ := by unfold Addr.add; split <;> simp_all
  rw [ha]
  simp only [World.cell?, h2, rowObj]
  rw [if_neg (by simp)]
  rw [List.getElem?_toArray, List.append_assoc, List.getElem?_append_right (by omega), List.getElem?_append_left (by omega)]
  simp [h1, List.getElem?_eq_getElem hj]

theorem Lies.frozen {w : World} {g o : Nat} {cs : List Value} (h : Lies w g o cs) {j : Nat} (hj : j < cs.length) : w.frozen? ⟨g, o + j, none⟩ = false := by
  obtain ⟨te, fr, L, R, h1, h2, h3⟩ := h
  have := h3 (o + j) (by omega)
  simp only [World.frozen?, h2, rowObj]
  simpa using this

theorem M.cellsL_split : ∀ {xs : List M} {i : Nat} {x : M}, xs[i]? = some x → M.cellsL xs = M.cellsL (xs.take i) ++ M.cells x ++ M.cellsL (xs.drop (i + 1))
  | [], i, x, h => by simp at h
  | y :: ys, 0, x, h => by
    simp only [List.getElem?_cons_zero, Option.some.injEq] at h
    subst h
    simp [M.cellsL]
  | y :: ys, i + 1, x, h => by
    simp only [List.getElem?_cons_succ] at h
    simp only [M.cellsL, List.take_succ_cons, List.drop_succ_cons, M.cellsL_split h, List.append_assoc]

theorem M.cellsL_set : ∀ {xs : List M} {i : Nat} {x y : M}, xs[i]? = some x → M.cellsL (xs.set i y) = M.cellsL (xs.take i) ++ M.cells y ++ M.cellsL (xs.drop (i + 1))
  | [], i, x, y, h => by simp at h
  | z :: ys, 0, x, y, h => by simp [M.cellsL]
  | z :: ys, i + 1, x, y, h => by
    simp only [List.getElem?_cons_succ] at h
    simp only [M.cellsL, List.set_cons_succ, List.take_succ_cons, List.drop_succ_cons, M.cellsL_set h, List.append_assoc]

/-- A part lies where its place says. -/
theorem M.lies {w : World} {Fz : Nat → Prop} : ∀ (p : List Stp) {m m' : M} {g o g' o' : Nat}, M.Ok w Fz m → M.In w m → Lies w g o (M.cells m) → M.get m p = some m' → M.at_ m g o p = some (g', o') →
    Lies w g' o' (M.cells m') ∧ M.In w m' ∧ M.Ok w Fz m'
  | [], m, m', g, o, g', o', hok, hin, hl, hg, ha => by
    rw [M.get_nil] at hg
    rw [M.at_nil] at ha
    obtain rfl := Option.some.inj hg
    obtain ⟨rfl, rfl⟩ := Prod.mk.inj (Option.some.inj ha)
    exact ⟨hl, hin, hok⟩
  | s :: p, m, m', g, o, g', o', hok, hin, hl, hg, ha => by
    cases m with
    | leaf v d => cases s <;> simp [M.get] at hg
    | agg xs =>
      cases s with
      | elm i => simp [M.get] at hg
      | fld i =>
        simp only [M.get, Option.bind_eq_some_iff] at hg
        obtain ⟨x, h1, h2⟩ := hg
        simp only [M.at_, h1, Option.bind_some] at ha
        simp only [M.Ok] at hok
        simp only [M.In] at hin
        simp only [M.cells, M.cellsL_split h1] at hl
        exact M.lies p (hok.get h1) (hin.get h1) hl.sub h2 ha
    | lst g1 tg te e xs rest fr =>
      cases s with
      | fld i => simp [M.get] at hg
      | elm i =>
        simp only [M.get, Option.bind_eq_some_iff] at hg
        obtain ⟨x, h1, h2⟩ := hg
        simp only [M.at_, h1, Option.bind_some] at ha
        simp only [M.Ok] at hok
        simp only [M.In] at hin
        obtain ⟨he, hx, hc, hr, ht, hf⟩ := hok
        have hlen := M.cellsL_len hc
        have hi : i < xs.length := by
          rcases Nat.lt_or_ge i xs.length with h | h
          · exact h
          · rw [List.getElem?_eq_none h] at h1; cases h1
        have hli : (M.cellsL (xs.take i)).length = i * e := by
          rw [M.cellsL_len (fun y hy => hc y (List.mem_of_mem_take hy)), List.length_take, Nat.min_eq_left (by omega)]
        refine M.lies p (hx.get h1) (hin.2.get h1) ?_ h2 ha
        refine ⟨te, fr, M.cellsL (xs.take i), M.cellsL (xs.drop (i + 1)) ++ rest, hli, ?_, ?_⟩
        · rw [hin.1, M.cellsL_split h1]; simp [List.append_assoc]
        · intro j hj
          refine hf j ?_
          rw [M.cellsL_split h1] at hlen
          simp only [List.length_append] at hj hlen ⊢
          omega
end Go.Lft

/- A part of one's own memory is written. -/
namespace Go.Lft

theorem M.ids_split : ∀ (p : List Stp) {m x : M}, M.get m p = some x → ∃ A B, M.ids m = A ++ M.ids x ++ B ∧ ∀ y, M.ids (M.put m p y) = A ++ M.ids y ++ B
  | [], m, x, h => by
    rw [M.get_nil] at h
    obtain rfl := Option.some.inj h
    exact ⟨[], [], by simp, fun y => by simp [M.put_nil]⟩
  | s :: p, m, x, h => by
    cases m with
    | leaf v d => cases s <;> simp [M.get] at h
    | agg xs =>
      cases s with
      | elm i => simp [M.get] at h
      | fld i =>
        simp only [M.get, Option.bind_eq_some_iff] at h
        obtain ⟨z, h1, h2⟩ := h
        obtain ⟨A, B, h3, h4⟩ := M.ids_split p h2
        have hi : i < xs.length := by
          rcases Nat.lt_or_ge i xs.length with h | h
          · exact h
          · rw [List.getElem?_eq_none h] at h1; cases h1
        have hz : xs[i] = z := by rw [List.getElem?_eq_getElem hi] at h1; exact Option.some.inj h1
        refine ⟨M.idsL (xs.take i) ++ A, B ++ M.idsL (xs.drop (i + 1)), ?_, fun y => ?_⟩
        · simp only [M.ids]
          conv => lhs; rw [← List.take_append_drop i xs, List.drop_eq_getElem_cons hi, hz]
          simp only [M.idsL_append, M.idsL, h3, List.append_assoc]
        · simp only [M.put, h1, M.ids]
          rw [List.set_eq_take_append_cons_drop, if_pos hi]
          simp only [M.idsL_append, M.idsL, h4, List.append_assoc]
    | lst g tg te e xs rest fr =>
      cases s with
      | fld i => simp [M.get] at h
      | elm i =>
        simp only [M.get, Option.bind_eq_some_iff] at h
        obtain ⟨z, h1, h2⟩ := h
        obtain ⟨A, B, h3, h4⟩ := M.ids_split p h2
        have hi : i < xs.length := by
          rcases Nat.lt_or_ge i xs.length with h | h
          · exact h
          · rw [List.getElem?_eq_none h] at h1; cases h1
        have hz : xs[i] = z := by rw [List.getElem?_eq_getElem hi] at h1; exact Option.some.inj h1
        refine ⟨g :: M.idsL (xs.take i) ++ A, B ++ M.idsL (xs.drop (i + 1)), ?_, fun y => ?_⟩
        · simp only [M.ids]
          conv => lhs; rw [← List.take_append_drop i xs, List.drop_eq_getElem_cons hi, hz]
          simp only [M.idsL_append, M.idsL, h3, List.append_assoc, List.cons_append]
        · simp only [M.put, h1, M.ids]
          rw [List.set_eq_take_append_cons_drop, if_pos hi]
          simp only [M.idsL_append, M.idsL, h4, List.append_assoc, List.cons_append]

theorem M.at_mem : ∀ (p : List Stp) {m : M} {g o g' o' : Nat}, M.at_ m g o p = some (g', o') → g' = g ∨ g' ∈ M.ids m
  | [], m, g, o, g', o', h => by
    rw [M.at_nil] at h
    exact .inl (Prod.mk.inj (Option.some.inj h)).1.symm
  | s :: p, m, g, o, g', o', h => by
    cases m with
    | leaf v d => cases s <;> simp [M.at_] at h
    | agg xs =>
      cases s with
      | elm i => simp [M.at_] at h
      | fld i =>
        simp only [M.at_, Option.bind_eq_some_iff] at h
        obtain ⟨z, h1, h2⟩ := h
        rcases M.at_mem p h2 with h3 | h3
        · exact .inl h3
        · exact .inr (by simp only [M.ids]; exact M.mem_idsL.2 ⟨z, List.mem_of_getElem? h1, h3⟩)
    | lst g1 tg te e xs rest fr =>
      cases s with
      | fld i => simp [M.at_] at h
      | elm i =>
        simp only [M.at_, Option.bind_eq_some_iff] at h
        obtain ⟨z, h1, h2⟩ := h
        rcases M.at_mem p h2 with h3 | h3
        · exact .inr (by simp [M.ids, h3])
        · exact .inr (by simp only [M.ids]; exact List.mem_cons_of_mem _ (M.mem_idsL.2 ⟨z, List.mem_of_getElem? h1, h3⟩))

theorem M.get_in {w : World} : ∀ (p : List Stp) {m x : M}, M.In w m → M.get m p = some x → M.In w x
  | [], m, x, h, hg => by
    rw [M.get_nil] at hg
    obtain rfl := Option.some.inj hg
    exact h
  | s :: p, m, x, h, hg => by
    cases m with
    | leaf v d => cases s <;> simp [M.get] at hg
    | agg xs =>
      cases s with
      | elm i => simp [M.get] at hg
      | fld i =>
        simp only [M.get, Option.bind_eq_some_iff] at hg
        obtain ⟨z, h1, h2⟩ := hg
        simp only [M.In] at h
        exact M.get_in p (h.get h1) h2
    | lst g1 tg te e xs rest fr =>
      cases s with
      | fld i => simp [M.get] at hg
      | elm i =>
        simp only [M.get, Option.bind_eq_some_iff] at hg
        obtain ⟨z, h1, h2⟩ := hg
        simp only [M.In] at h
        exact M.get_in p (h.2.get h1) h2

/-- The cells from o on in the block g have become these; all else stands. -/
def Written (w w' : World) (g o : Nat) (cs : List Value) : Prop :=
  ∃ te fr, ∃ L c R : List Value, L.length = o ∧ c.length = cs.length ∧ w.heap[g]? = some (rowObj te (L ++ c ++ R) fr) ∧ w'.heap[g]? = some (rowObj te (L ++ cs ++ R) fr) ∧ ∀ g', g' ≠ g → w'.heap[g']? = w.heap[g']?

theorem M.put_ok {w : World} {Fz : Nat → Prop} {y : M} : ∀ (p : List Stp) {m x : M}, M.Ok w Fz m → M.Ok w Fz y → M.get m p = some x → (M.cells y).length = (M.cells x).length → M.Ok w Fz (M.put m p y) ∧ (M.cells (M.put m p y)).length = (M.cells m).length
  | [], m, x, hm, hy, h, hl => by
    rw [M.get_nil] at h
    obtain rfl := Option.some.inj h
    rw [M.put_nil]
    exact ⟨hy, hl⟩
  | s :: p, m, x, hm, hy, h, hl => by
    cases m with
    | leaf v d => cases s <;> simp [M.get] at h
    | agg xs =>
      cases s with
      | elm i => simp [M.get] at h
      | fld i =>
        simp only [M.get, Option.bind_eq_some_iff] at h
        obtain ⟨z, h1, h2⟩ := h
        simp only [M.Ok] at hm
        obtain ⟨h3, h4⟩ := M.put_ok p (hm.get h1) hy h2 hl
        simp only [M.put, h1, M.Ok, M.cells]
        refine ⟨M.OkL_iff.2 fun a ha => ?_, ?_⟩
        · rcases List.mem_or_eq_of_mem_set ha with ha | rfl
          · exact M.OkL_iff.1 hm a ha
          · exact h3
        · rw [M.cellsL_set h1, M.cellsL_split h1]
          simp only [List.length_append, h4]
    | lst g tg te e xs rest fr =>
      cases s with
      | fld i => simp [M.get] at h
      | elm i =>
        simp only [M.get, Option.bind_eq_some_iff] at h
        obtain ⟨z, h1, h2⟩ := h
        simp only [M.Ok] at hm
        obtain ⟨ha, hb, hc, hd, he, hf⟩ := hm
        obtain ⟨h3, h4⟩ := M.put_ok p (hb.get h1) hy h2 hl
        simp only [M.put, h1, M.Ok, M.cells, List.length_set]
        refine ⟨⟨ha, M.OkL_iff.2 fun a ha => ?_, fun a ha => ?_, hd, he, hf⟩, trivial⟩
        · rcases List.mem_or_eq_of_mem_set ha with ha | rfl
          · exact M.OkL_iff.1 hb a ha
          · exact h3
        · rcases List.mem_or_eq_of_mem_set ha with ha | rfl
          · exact hc a ha
          · rw [h4]; exact hc z (List.mem_of_getElem? h1)

theorem M.idsL_nodup_of {xs : List M} {i : Nat} {z : M} (h1 : xs[i]? = some z) (hn : (M.idsL xs).Nodup) : (M.ids z).Nodup ∧ ∀ j a, xs[j]? = some a → j ≠ i → ∀ g ∈ M.ids z, g ∉ M.ids a := by
  induction xs generalizing i with
  | nil => simp at h1
  | cons x xs ih =>
    simp only [M.idsL, List.nodup_append] at hn
    obtain ⟨n1, n2, n3⟩ := hn
    cases i with
    | zero =>
      simp only [List.getElem?_cons_zero, Option.some.injEq] at h1
      subst h1
      refine ⟨n1, fun j a ha hj g hg hga => ?_⟩
      cases j with
      | zero => exact hj rfl
      | succ j =>
        simp only [List.getElem?_cons_succ] at ha
        exact n3 g hg g (M.mem_idsL.2 ⟨a, List.mem_of_getElem? ha, hga⟩) rfl
    | succ i =>
      simp only [List.getElem?_cons_succ] at h1
      obtain ⟨m1, m2⟩ := ih h1 n2
      refine ⟨m1, fun j a ha hj g hg hga => ?_⟩
      cases j with
      | zero =>
        simp only [List.getElem?_cons_zero, Option.some.injEq] at ha
        subst ha
        exact n3 g hga g (M.mem_idsL.2 ⟨z, List.mem_of_getElem? h1, hg⟩) rfl
      | succ j =>
        simp only [List.getElem?_cons_succ] at ha
        exact m2 j a ha (by omega) g hg hga

theorem M.InL_set {w w' : World} {xs : List M} {i : Nat} {z y : M} {g' : Nat} (hx : M.InL w xs) (h1 : xs[i]? = some z) (hy : M.In w' y) (ho : ∀ g, g ≠ g' → w'.heap[g]? = w.heap[g]?) (hd : ∀ j a, xs[j]? = some a → j ≠ i → g' ∉ M.ids a) : M.InL w' (xs.set i y) := by
  refine M.InL_iff.2 fun a ha => ?_
  obtain ⟨j, hj⟩ := List.getElem?_of_mem ha
  by_cases hij : i = j
  · subst hij
    rw [List.getElem?_set_self (by
      rcases Nat.lt_or_ge i xs.length with h | h
      · exact h
      · rw [List.getElem?_eq_none h] at h1; cases h1)] at hj
    obtain rfl := Option.some.inj hj
    exact hy
  · rw [List.getElem?_set_ne hij] at hj
    refine M.In.stab (fun g hg => ho g ?_) (hx.get hj)
    rintro rfl
    exact hd j a hj (Ne.symm hij) hg

/-- A part is written: the whole has become the whole with the new part. -/
theorem M.put_in {w w' : World} {Fz : Nat → Prop} {y : M} {g' o' : Nat} (hw : Written w w' g' o' (M.cells y)) (hy : M.In w' y) : ∀ (p : List Stp) {m x : M} {g o te : Nat} {fr : Nat × Nat} {L R : List Value},
    M.Ok w Fz m → M.In w m → w.heap[g]? = some (rowObj te (L ++ M.cells m ++ R) fr) → L.length = o → g ∉ M.ids m → (M.ids m).Nodup →
    M.get m p = some x → M.at_ m g o p = some (g', o') → (M.cells y).length = (M.cells x).length →
    M.In w' (M.put m p y) ∧ w'.heap[g]? = some (rowObj te (L ++ M.cells (M.put m p y) ++ R) fr)
  | [], m, x, g, o, te, fr, L, R, hok, hin, hg, ho, hni, hnd, h, ha, hl => by
    rw [M.get_nil] at h
    obtain rfl := Option.some.inj h
    rw [M.at_nil] at ha
    obtain ⟨rfl, rfl⟩ := Prod.mk.inj (Option.some.inj ha)
    rw [M.put_nil]
    refine ⟨hy, ?_⟩
    obtain ⟨te', fr', L', c, R', e1, e2, e3, e4, e5⟩ := hw
    rw [hg] at e3
    simp only [rowObj, Option.some.injEq, Obj.cells.injEq] at e3
    obtain ⟨e3, rfl, rfl⟩ := e3
    replace e3 : L ++ m.cells ++ R = L' ++ c ++ R' := by have := congrArg Array.toList e3; simpa using this
    have := List.append_inj e3 (by simp only [List.length_append]; omega)
    obtain ⟨f1, rfl⟩ := this
    obtain ⟨rfl, rfl⟩ := List.append_inj f1 (by omega)
    rw [e4]
  | s :: p, m, x, g, o, te, fr, L, R, hok, hin, hg, ho, hni, hnd, h, ha, hl => by
    cases m with
    | leaf v d => cases s <;> simp [M.get] at h
    | agg xs =>
      cases s with
      | elm i => simp [M.get] at h
      | fld i =>
        simp only [M.get, Option.bind_eq_some_iff] at h
        obtain ⟨z, h1, h2⟩ := h
        simp only [M.at_, h1, Option.bind_some] at ha
        simp only [M.Ok] at hok
        simp only [M.In] at hin
        simp only [M.ids] at hni hnd
        obtain ⟨n1, n2⟩ := M.idsL_nodup_of h1 hnd
        have hgz : g ∉ M.ids z := fun hz => hni (M.mem_idsL.2 ⟨z, List.mem_of_getElem? h1, hz⟩)
        have hg2 : w.heap[g]? = some (rowObj te ((L ++ M.cellsL (xs.take i)) ++ M.cells z ++ (M.cellsL (xs.drop (i + 1)) ++ R)) fr) := by
          rw [hg]; simp only [M.cells, M.cellsL_split h1, List.append_assoc]
        obtain ⟨r1, r2⟩ := M.put_in hw hy p (hok.get h1) (hin.get h1) hg2 (by simp [ho]) hgz n1 h2 ha hl
        obtain ⟨te', fr', L', c, R', e1, e2, e3, e4, e5⟩ := hw
        simp only [M.put, h1, M.In, M.cells]
        refine ⟨M.InL_set hin h1 r1 e5 fun j a hja hj hga => ?_, ?_⟩
        · rcases M.at_mem p ha with rfl | hz
          · exact hni (M.mem_idsL.2 ⟨a, List.mem_of_getElem? hja, hga⟩)
          · exact n2 j a hja hj g' hz hga
        · rw [r2, M.cellsL_set h1]; simp only [List.append_assoc]
    | lst g1 tg te1 e xs rest fr1 =>
      cases s with
      | fld i => simp [M.get] at h
      | elm i =>
        simp only [M.get, Option.bind_eq_some_iff] at h
        obtain ⟨z, h1, h2⟩ := h
        simp only [M.at_, h1, Option.bind_some] at ha
        simp only [M.Ok] at hok
        simp only [M.In] at hin
        simp only [M.ids, List.mem_cons, not_or, List.nodup_cons] at hni hnd
        obtain ⟨n1, n2⟩ := M.idsL_nodup_of h1 hnd.2
        obtain ⟨k1, k2, k3, k4, k5, k6⟩ := hok
        have hg1z : g1 ∉ M.ids z := fun hz => hnd.1 (M.mem_idsL.2 ⟨z, List.mem_of_getElem? h1, hz⟩)
        have hi : i < xs.length := by
          rcases Nat.lt_or_ge i xs.length with h | h
          · exact h
          · rw [List.getElem?_eq_none h] at h1; cases h1
        have hli : (M.cellsL (xs.take i)).length = i * e := by
          rw [M.cellsL_len (fun y hy => k3 y (List.mem_of_mem_take hy)), List.length_take, Nat.min_eq_left (by omega)]
        have hg2 : w.heap[g1]? = some (rowObj te1 (M.cellsL (xs.take i) ++ M.cells z ++ (M.cellsL (xs.drop (i + 1)) ++ rest)) fr1) := by
          rw [hin.1, M.cellsL_split h1]; simp only [List.append_assoc]
        obtain ⟨r1, r2⟩ := M.put_in hw hy p (k2.get h1) (hin.2.get h1) hg2 hli hg1z n1 h2 ha hl
        obtain ⟨te', fr', L', c, R', e1, e2, e3, e4, e5⟩ := hw
        have hne : g ≠ g' := by
          rintro rfl
          rcases M.at_mem p ha with rfl | hz
          · exact hni.1 rfl
          · exact hni.2 (M.mem_idsL.2 ⟨z, List.mem_of_getElem? h1, hz⟩)
        simp only [M.put, h1, M.In, M.cells, List.length_set]
        refine ⟨⟨?_, M.InL_set hin.2 h1 r1 e5 fun j a hja hj hga => ?_⟩, ?_⟩
        · rw [r2, M.cellsL_set h1]; simp only [List.append_assoc]
        · rcases M.at_mem p ha with rfl | hz
          · exact hnd.1 (M.mem_idsL.2 ⟨a, List.mem_of_getElem? hja, hga⟩)
          · exact n2 j a hja hj g' hz hga
        · rw [e5 g hne, hg]; simp only [M.cells]

end Go.Lft

/- A frame in memory: what its temporaries and its own rows tell. -/
namespace Go.Lft

/-! ### One's own memory, read alone -/
mutual
theorem FRep.freeze {w : World} {Fz : Nat → Prop} : ∀ {d : D} {cs : List Value}, FRep w Fz cs d → FRep w Fz cs (D.freeze d)
  | .int k n, cs, h => by simpa only [D.freeze] using h
  | .bool b, cs, h => by simpa only [D.freeze] using h
  | .str s, cs, h => by simpa only [D.freeze] using h
  | .agg xs, cs, h => by simp only [FRep] at h; simp only [D.freeze, FRep]; exact FRepL.freeze h
  | .lst true te e xs, cs, h => by
    simp only [FRep] at h
    obtain ⟨rfl, rfl⟩ := h
    simp only [D.freeze, D.freezeL, FRep, FItems, List.length_nil]
    exact ⟨none, 0, rfl, Nat.le_refl _, trivial⟩
  | .lst false te e xs, cs, h => by
    simp only [FRep] at h
    obtain ⟨a, cap, rfl, h2, h3⟩ := h
    have hl : (D.freezeL xs).length = xs.length := D.freezeL_len xs
    simp only [D.freeze, FRep, hl]
    exact ⟨a, cap, rfl, h2, FItems.freeze h3⟩
  | .fn f caps, cs, h => by simpa only [D.freeze] using h
  | .ifc b, cs, h => by simpa only [D.freeze] using h
  | .pto x, cs, h => by simpa only [D.freeze] using h
  | .ptr .., cs, h => by simp only [FRep] at h
  | .slc .., cs, h => by simp only [FRep] at h
  | .tup _, cs, h => by simp only [FRep] at h
  | .undef, cs, h => by simpa only [D.freeze] using h
theorem FRepL.freeze {w : World} {Fz : Nat → Prop} : ∀ {xs : List D} {cs : List Value}, FRepL w Fz cs xs → FRepL w Fz cs (D.freezeL xs)
  | [], cs, h => by simpa only [D.freezeL] using h
  | x :: xs, cs, h => by
    simp only [FRepL] at h
    obtain ⟨c1, c2, rfl, h1, h2⟩ := h
    simp only [D.freezeL, FRepL]
    exact ⟨c1, c2, rfl, FRep.freeze h1, FRepL.freeze h2⟩
theorem FItems.freeze {w : World} {Fz : Nat → Prop} {a : Option Addr} {e : Nat} : ∀ {xs : List D} {i : Nat}, FItems w Fz a e i xs → FItems w Fz a e i (D.freezeL xs)
  | [], i, h => by simp only [D.freezeL, FItems]
  | x :: xs, i, h => by
    simp only [FItems] at h
    obtain ⟨⟨ad, c, h0, h1, h2, h3, h4⟩, h5⟩ := h
    simp only [D.freezeL, FItems]
    exact ⟨⟨ad, c, h0, h1, h2, h3, FRep.freeze h4⟩, FItems.freeze h5⟩
theorem D.freezeL_len : ∀ (xs : List D), (D.freezeL xs).length = xs.length
  | [] => by simp only [D.freezeL]
  | x :: xs => by simp only [D.freezeL, List.length_cons, D.freezeL_len xs]
end

theorem D.freezeL_map : ∀ (xs : List D), D.freezeL xs = xs.map D.freeze
  | [] => rfl
  | x :: xs => by simp only [D.freezeL, List.map_cons, D.freezeL_map xs]

theorem lit_add (g n : Nat) : (⟨g, 0, none⟩ : Addr).add n = ⟨g, n, none⟩ := by unfold Addr.add; split <;> simp_all

theorem take_mul_len {xs : List M} {e : Nat} (h : ∀ x ∈ xs, (M.cells x).length = e) {i : Nat} (hi : i ≤ xs.length) : (M.cellsL (xs.take i)).length = i * e := by
  rw [M.cellsL_len (fun y hy => h y (List.mem_of_mem_take hy)), List.length_take, Nat.min_eq_left hi]

theorem lt_of_get? {α : Type} {xs : List α} {i : Nat} {x : α} (h : xs[i]? = some x) : i < xs.length := by
  rcases Nat.lt_or_ge i xs.length with h' | h'
  · exact h'
  · rw [List.getElem?_eq_none h'] at h; cases h

theorem M.lst_lies {w : World} {g te e : Nat} {xs : List M} {rest : List Value} {fr : Nat × Nat} (hin : w.heap[g]? = some (rowObj te (M.cellsL xs ++ rest) fr)) (hc : ∀ x ∈ xs, (M.cells x).length = e) (hf : frOk fr (xs.length * e + rest.length)) {i : Nat} {x : M} (hx : xs[i]? = some x) :
    Lies w g (i * e) (M.cells x) := by
  have hi := lt_of_get? hx
  refine ⟨te, fr, M.cellsL (xs.take i), M.cellsL (xs.drop (i + 1)) ++ rest, take_mul_len hc (by omega), ?_, ?_⟩
  · rw [hin, M.cellsL_split hx]; simp [List.append_assoc]
  · intro j hj
    refine hf j ?_
    have hlen := M.cellsL_len hc
    rw [M.cellsL_split hx] at hlen
    simp only [List.length_append] at hj hlen ⊢
    omega

mutual
theorem M.frep {w : World} {Fz Fz' : Nat → Prop} (hf : ∀ g, Fz g → Fz' g) : ∀ {m : M}, M.Ok w Fz m → M.In w m → (∀ g ∈ M.ids m, Fz' g) → FRep w Fz' (M.cells m) (D.freeze (M.data m))
  | .leaf v d, hok, hin, hi => by simp only [M.Ok] at hok; simp only [M.cells, M.data]; exact (hok.1.stab (fun _ _ => rfl) hf).freeze
  | .agg xs, hok, hin, hi => by
    simp only [M.Ok] at hok
    simp only [M.In] at hin
    simp only [M.ids] at hi
    simp only [M.cells, M.data, D.freeze, FRep]
    exact M.frepL hf hok hin hi
  | .lst g tg te e xs rest fr, hok, hin, hi => by
    simp only [M.Ok] at hok
    simp only [M.In] at hin
    simp only [M.ids, List.mem_cons] at hi
    obtain ⟨k1, k2, k3, k4, k5, k6⟩ := hok
    have hl : (D.freezeL (M.dataL xs)).length = xs.length := by rw [D.freezeL_len, M.dataL_length]
    simp only [M.cells, M.data, D.freeze, FRep, hl]
    refine ⟨_, _, rfl, Nat.le_add_right .., FItems.mk fun j x hx => ?_⟩
    rw [D.freezeL_map, M.dataL_map, List.map_map, List.getElem?_map, Option.map_eq_some_iff] at hx
    obtain ⟨y, hy, rfl⟩ := hx
    have hlies := M.lst_lies hin.1 k3 k6 hy
    refine ⟨_, M.cells y, rfl, hi g (.inl rfl), k3 y (List.mem_of_getElem? hy), ?_, ?_⟩
    · rw [Nat.zero_add, lit_add]; exact hlies.cells
    · exact M.frepL_mem hf k2 hin.2 (fun g' hg' => hi g' (.inr hg')) y (List.mem_of_getElem? hy)
theorem M.frepL {w : World} {Fz Fz' : Nat → Prop} (hf : ∀ g, Fz g → Fz' g) : ∀ {xs : List M}, M.OkL w Fz xs → M.InL w xs → (∀ g ∈ M.idsL xs, Fz' g) → FRepL w Fz' (M.cellsL xs) (D.freezeL (M.dataL xs))
  | [], _, _, _ => by simp only [M.cellsL, M.dataL, D.freezeL, FRepL]
  | x :: xs, hok, hin, hi => by
    simp only [M.OkL] at hok
    simp only [M.InL] at hin
    simp only [M.idsL, List.mem_append] at hi
    simp only [M.cellsL, M.dataL, D.freezeL, FRepL]
    exact ⟨_, _, rfl, M.frep hf hok.1 hin.1 (fun g hg => hi g (.inl hg)), M.frepL hf hok.2 hin.2 (fun g hg => hi g (.inr hg))⟩
theorem M.frepL_mem {w : World} {Fz Fz' : Nat → Prop} (hf : ∀ g, Fz g → Fz' g) : ∀ {xs : List M}, M.OkL w Fz xs → M.InL w xs → (∀ g ∈ M.idsL xs, Fz' g) → ∀ y ∈ xs, FRep w Fz' (M.cells y) (D.freeze (M.data y))
  | [], _, _, _, y, hy => by simp at hy
  | x :: xs, hok, hin, hi, y, hy => by
    simp only [M.OkL] at hok
    simp only [M.InL] at hin
    simp only [M.idsL, List.mem_append] at hi
    rcases List.mem_cons.1 hy with h | h
    · rw [h]; exact M.frep hf hok.1 hin.1 (fun g hg => hi g (.inl hg))
    · exact M.frepL_mem hf hok.2 hin.2 (fun g hg => hi g (.inr hg)) y h
end

/-! ### Values of a frame -/
/-- Places, and blocks that nobody writes while the call lasts. -/
structure PP where
  pl : Rid → List Stp → Value → Prop
  st : Nat → Prop
instance : CoeFun PP (fun _ => Rid → List Stp → Value → Prop) := ⟨PP.pl⟩
abbrev PS := Rid → List Stp → Nat → Nat → Value → Prop

mutual
def VC (w : World) (Fz : Nat → Prop) (pp : PP) (ps : PS) (cs : List Value) : D → Prop
  | .ptr r p => ∃ v, cs = [v] ∧ pp r p v
  | .slc r p off len => ∃ v, cs = [v] ∧ ps r p off len v
  | .agg xs => VCL w Fz pp ps cs xs
  | .fn f caps => ∃ capt : List Value, cs = [.func (.func f) #[] capt.toArray] ∧ VCs w Fz pp ps capt caps
  | .tup _ => False
  | .int k n => FRep w Fz cs (.int k n)
  | .bool b => FRep w Fz cs (.bool b)
  | .str s => FRep w Fz cs (.str s)
  | .lst o te e xs => FRep w Fz cs (.lst o te e xs)
  | .ifc b => FRep w Fz cs (.ifc b)
  | .pto x => ∃ a c, cs = [.pointer (some a)] ∧ (Fz a.block ∨ pp.st a.block) ∧ CellsAt w a c ∧ FRep w Fz c x
  | .undef => ∃ v, cs = [v]
def VCL (w : World) (Fz : Nat → Prop) (pp : PP) (ps : PS) (cs : List Value) : List D → Prop
  | [] => cs = []
  | x :: xs => ∃ c1 c2, cs = c1 ++ c2 ∧ VC w Fz pp ps c1 x ∧ VCL w Fz pp ps c2 xs
def VCs (w : World) (Fz : Nat → Prop) (pp : PP) (ps : PS) (vs : List Value) : List D → Prop
  | [] => vs = []
  | x :: xs => ∃ v vs', vs = v :: vs' ∧ VC w Fz pp ps [v] x ∧ VCs w Fz pp ps vs' xs
end

mutual
/-- A temporary's value tells this datum. -/
def VV (w : World) (Fz : Nat → Prop) (pp : PP) (ps : PS) (v : Value) : D → Prop
  | .agg xs => ∃ cs : List Value, v = .agg cs.toArray ∧ VCL w Fz pp ps cs xs
  | .tup xs => ∃ vs : List Value, v = .tuple vs.toArray ∧ VVs w Fz pp ps vs xs
  | .undef => True
  | .ptr r p => VC w Fz pp ps [v] (.ptr r p)
  | .slc r p off len => VC w Fz pp ps [v] (.slc r p off len)
  | .fn f caps => VC w Fz pp ps [v] (.fn f caps)
  | .int k n => VC w Fz pp ps [v] (.int k n)
  | .bool b => VC w Fz pp ps [v] (.bool b)
  | .str s => VC w Fz pp ps [v] (.str s)
  | .lst o te e xs => VC w Fz pp ps [v] (.lst o te e xs)
  | .ifc b => VC w Fz pp ps [v] (.ifc b)
  | .pto x => VC w Fz pp ps [v] (.pto x)
def VVs (w : World) (Fz : Nat → Prop) (pp : PP) (ps : PS) (vs : List Value) : List D → Prop
  | [] => vs = []
  | x :: xs => ∃ v vs', vs = v :: vs' ∧ VV w Fz pp ps v x ∧ VVs w Fz pp ps vs' xs
end

/-- A datum of one cell that is no aggregate: as a value. -/
theorem VV.of_VC {w : World} {Fz : Nat → Prop} {pp : PP} {ps : PS} {v : Value} {d : D} (h : VC w Fz pp ps [v] d) (ha : isAgg d = false) : VV w Fz pp ps v d := by
  cases d <;> simp_all [VV, isAgg] <;> simp [VC] at h
theorem VC.of_VV {w : World} {Fz : Nat → Prop} {pp : PP} {ps : PS} {v : Value} {d : D} (h : VV w Fz pp ps v d) (ha : isAgg d = false) (ht : ∀ xs, d ≠ .tup xs) : VC w Fz pp ps [v] d := by
  cases d <;> simp_all [VV, isAgg, VC]

mutual
theorem VC.of_frep {w : World} {Fz : Nat → Prop} {pp : PP} {ps : PS} : ∀ {d : D} {cs : List Value}, FRep w Fz cs d → VC w Fz pp ps cs d
  | .int k n, cs, h => by simpa only [VC] using h
  | .bool b, cs, h => by simpa only [VC] using h
  | .str s, cs, h => by simpa only [VC] using h
  | .agg xs, cs, h => by simp only [FRep] at h; simp only [VC]; exact VCL.of_frep h
  | .lst o te e xs, cs, h => by simpa only [VC] using h
  | .fn f caps, cs, h => by simp only [FRep] at h; obtain ⟨capt, h1, h2⟩ := h; simp only [VC]; exact ⟨capt, h1, VCs.of_frep h2⟩
  | .ifc b, cs, h => by simpa only [VC] using h
  | .pto x, cs, h => by simp only [FRep] at h; obtain ⟨a, c, h1, h2, h3⟩ := h; simp only [VC]; exact ⟨a, c, h1, .inl h2, h3⟩
  | .ptr .., cs, h => by simp only [FRep] at h
  | .slc .., cs, h => by simp only [FRep] at h
  | .tup _, cs, h => by simp only [FRep] at h
  | .undef, cs, h => by simp only [FRep] at h; obtain ⟨v, h1, _⟩ := h; simp only [VC]; exact ⟨v, h1⟩
theorem VCL.of_frep {w : World} {Fz : Nat → Prop} {pp : PP} {ps : PS} : ∀ {xs : List D} {cs : List Value}, FRepL w Fz cs xs → VCL w Fz pp ps cs xs
  | [], cs, h => by simpa only [VCL, FRepL] using h
  | x :: xs, cs, h => by
    simp only [FRepL] at h
    obtain ⟨c1, c2, h0, h1, h2⟩ := h
    simp only [VCL]
    exact ⟨c1, c2, h0, VC.of_frep h1, VCL.of_frep h2⟩
theorem VCs.of_frep {w : World} {Fz : Nat → Prop} {pp : PP} {ps : PS} : ∀ {xs : List D} {vs : List Value}, FCaps w Fz vs xs → VCs w Fz pp ps vs xs
  | [], vs, h => by simpa only [VCs, FCaps] using h
  | x :: xs, vs, h => by
    simp only [FCaps] at h
    obtain ⟨v, vs', h0, h1, h2⟩ := h
    simp only [VCs]
    exact ⟨v, vs', h0, VC.of_frep h1, VCs.of_frep h2⟩
end

/-- What is killed, told place by place. -/
structure Kr where
  ptr : Rid → List Stp → Bool
  slc : Rid → List Stp → Bool

mutual
def Kr.on (k : Kr) : D → D
  | .ptr r p => if k.ptr r p = true then .undef else .ptr r p
  | .slc r p off len => if k.slc r p = true then .undef else .slc r p off len
  | .agg xs => .agg (Kr.onL k xs)
  | .tup xs => .tup (Kr.onL k xs)
  | .fn f xs => .fn f (Kr.onL k xs)
  | d => d
def Kr.onL (k : Kr) : List D → List D
  | [] => []
  | x :: xs => Kr.on k x :: Kr.onL k xs
end

def Kill.kr (k : Kill) : Kr := ⟨fun r p => decide (r = k.r ∧ (k.all = true ∨ meets k.p p = true ∧ p.length ≠ k.p.length)), fun r p => decide (r = k.r ∧ (k.all = true ∨ meets k.p p = true ∧ (k.at_ = true ∨ p.length ≠ k.p.length)))⟩
def Kr.none : Kr := ⟨fun _ _ => false, fun _ _ => false⟩
def Kr.or (a b : Kr) : Kr := ⟨fun r p => a.ptr r p || b.ptr r p, fun r p => a.slc r p || b.slc r p⟩
def krs : List Kill → Kr
  | [] => Kr.none
  | k :: ks => Kr.or k.kr (krs ks)

mutual
theorem Kill.on_kr (k : Kill) : ∀ d : D, k.on d = k.kr.on d
  | .ptr r p => by simp only [Kill.on, Kr.on, Kill.kr, decide_eq_true_eq]
  | .slc r p off len => by simp only [Kill.on, Kr.on, Kill.kr, decide_eq_true_eq]
  | .agg xs => by simp only [Kill.on, Kr.on, Kill.onL_kr k xs]
  | .tup xs => by simp only [Kill.on, Kr.on, Kill.onL_kr k xs]
  | .fn f xs => by simp only [Kill.on, Kr.on, Kill.onL_kr k xs]
  | .int .. => by simp only [Kill.on, Kr.on]
  | .bool _ => by simp only [Kill.on, Kr.on]
  | .str _ => by simp only [Kill.on, Kr.on]
  | .lst .. => by simp only [Kill.on, Kr.on]
  | .ifc _ => by simp only [Kill.on, Kr.on]
  | .pto _ => by simp only [Kill.on, Kr.on]
  | .undef => by simp only [Kill.on, Kr.on]
theorem Kill.onL_kr (k : Kill) : ∀ xs : List D, Kill.onL k xs = Kr.onL k.kr xs
  | [] => by simp only [Kill.onL, Kr.onL]
  | x :: xs => by simp only [Kill.onL, Kr.onL, Kill.on_kr k x, Kill.onL_kr k xs]
end

mutual
theorem Kr.on_none : ∀ d : D, Kr.none.on d = d
  | .ptr r p => by simp [Kr.on, Kr.none]
  | .slc r p off len => by simp [Kr.on, Kr.none]
  | .agg xs => by simp only [Kr.on, Kr.onL_none xs]
  | .tup xs => by simp only [Kr.on, Kr.onL_none xs]
  | .fn f xs => by simp only [Kr.on, Kr.onL_none xs]
  | .int .. => by simp only [Kr.on]
  | .bool _ => by simp only [Kr.on]
  | .str _ => by simp only [Kr.on]
  | .lst .. => by simp only [Kr.on]
  | .ifc _ => by simp only [Kr.on]
  | .pto _ => by simp only [Kr.on]
  | .undef => by simp only [Kr.on]
theorem Kr.onL_none : ∀ xs : List D, Kr.none.onL xs = xs
  | [] => by simp only [Kr.onL]
  | x :: xs => by simp only [Kr.onL, Kr.on_none x, Kr.onL_none xs]
end

mutual
theorem Kr.on_or (a b : Kr) : ∀ d : D, (Kr.or a b).on d = b.on (a.on d)
  | .ptr r p => by
    by_cases h : a.ptr r p = true <;> simp [Kr.on, Kr.or, h]
  | .slc r p off len => by
    by_cases h : a.slc r p = true <;> simp [Kr.on, Kr.or, h]
  | .agg xs => by simp only [Kr.on, Kr.onL_or a b xs]
  | .tup xs => by simp only [Kr.on, Kr.onL_or a b xs]
  | .fn f xs => by simp only [Kr.on, Kr.onL_or a b xs]
  | .int .. => by simp only [Kr.on]
  | .bool _ => by simp only [Kr.on]
  | .str _ => by simp only [Kr.on]
  | .lst .. => by simp only [Kr.on]
  | .ifc _ => by simp only [Kr.on]
  | .pto _ => by simp only [Kr.on]
  | .undef => by simp only [Kr.on]
theorem Kr.onL_or (a b : Kr) : ∀ xs : List D, (Kr.or a b).onL xs = b.onL (a.onL xs)
  | [] => by simp only [Kr.onL]
  | x :: xs => by simp only [Kr.onL, Kr.on_or a b x, Kr.onL_or a b xs]
end

theorem killAll_krs : ∀ (ks : List Kill) (env : Nat → D) (t : Nat), killAll ks env t = (krs ks).on (env t)
  | [], env, t => by simp only [killAll, krs, Kr.on_none]
  | k :: ks, env, t => by simp only [killAll, krs, Kr.on_or, killAll_krs ks, Kill.on_kr]

/-- What lives on: mentions that are not killed. -/
structure Lives (w w' : World) (Fz Fz' : Nat → Prop) (pp pp' : PP) (ps ps' : PS) (k : Kr) : Prop where
  heap : ∀ g, Fz g → w'.heap[g]? = w.heap[g]?
  fz : ∀ g, Fz g → Fz' g
  ptr : ∀ r p v, k.ptr r p = false → pp r p v → pp' r p v
  slc : ∀ r p off len v, k.slc r p = false → ps r p off len v → ps' r p off len v

theorem Kr.on_ptr (k : Kr) (r : Rid) (p : List Stp) : k.on (.ptr r p) = .undef ∨ k.on (.ptr r p) = .ptr r p ∧ k.ptr r p = false := by
  simp only [Kr.on]; split <;> simp_all
theorem Kr.on_slc (k : Kr) (r : Rid) (p : List Stp) (off len : Nat) : k.on (.slc r p off len) = .undef ∨ k.on (.slc r p off len) = .slc r p off len ∧ k.slc r p = false := by
  simp only [Kr.on]; split <;> simp_all

section
variable {w w' : World} {Fz Fz' : Nat → Prop} {pp pp' : PP} {ps ps' : PS} {k : Kr}
mutual
theorem VC.lives (hl : Lives w w' Fz Fz' pp pp' ps ps' k) (hst : ∀ g, pp.st g → w'.heap[g]? = w.heap[g]? ∧ pp'.st g) : ∀ {d : D} {cs : List Value}, VC w Fz pp ps cs d → VC w' Fz' pp' ps' cs (k.on d)
  | .ptr r p, cs, h => by
    simp only [VC] at h
    obtain ⟨v, rfl, h⟩ := h
    rcases k.on_ptr r p with e | ⟨e, e'⟩
    · rw [e]; simp only [VC]; exact ⟨v, rfl⟩
    · rw [e]; simp only [VC]; exact ⟨v, rfl, hl.ptr r p v e' h⟩
  | .slc r p off len, cs, h => by
    simp only [VC] at h
    obtain ⟨v, rfl, h⟩ := h
    rcases k.on_slc r p off len with e | ⟨e, e'⟩
    · rw [e]; simp only [VC]; exact ⟨v, rfl⟩
    · rw [e]; simp only [VC]; exact ⟨v, rfl, hl.slc r p off len v e' h⟩
  | .agg xs, cs, h => by simp only [VC] at h; simp only [Kr.on, VC]; exact VCL.lives hl hst h
  | .fn f caps, cs, h => by simp only [VC] at h; obtain ⟨capt, h1, h2⟩ := h; simp only [Kr.on, VC]; exact ⟨capt, h1, VCs.lives hl hst h2⟩
  | .tup _, cs, h => by simp only [VC] at h
  | .int _ n, cs, h => by simp only [VC] at h; simp only [Kr.on, VC]; exact h.stab hl.heap hl.fz
  | .bool b, cs, h => by simp only [VC] at h; simp only [Kr.on, VC]; exact h.stab hl.heap hl.fz
  | .str s, cs, h => by simp only [VC] at h; simp only [Kr.on, VC]; exact h.stab hl.heap hl.fz
  | .lst o te e xs, cs, h => by simp only [VC] at h; simp only [Kr.on, VC]; exact h.stab hl.heap hl.fz
  | .ifc b, cs, h => by simp only [VC] at h; simp only [Kr.on, VC]; exact h.stab hl.heap hl.fz
  | .pto x, cs, h => by
    simp only [VC] at h
    obtain ⟨a, c, h1, h2, h3, h4⟩ := h
    simp only [Kr.on, VC]
    refine ⟨a, c, h1, ?_, ?_, h4.stab hl.heap hl.fz⟩
    · rcases h2 with h2 | h2
      · exact .inl (hl.fz _ h2)
      · exact .inr (hst _ h2).2
    · rcases h2 with h2 | h2
      · exact h3.stab (hl.heap _ h2)
      · exact h3.stab (hst _ h2).1
  | .undef, cs, h => by simp only [VC] at h; simp only [Kr.on, VC]; exact h
theorem VCL.lives (hl : Lives w w' Fz Fz' pp pp' ps ps' k) (hst : ∀ g, pp.st g → w'.heap[g]? = w.heap[g]? ∧ pp'.st g) : ∀ {xs : List D} {cs : List Value}, VCL w Fz pp ps cs xs → VCL w' Fz' pp' ps' cs (Kr.onL k xs)
  | [], cs, h => by simp only [VCL] at h; simp only [Kr.onL, VCL]; exact h
  | x :: xs, cs, h => by
    simp only [VCL] at h
    obtain ⟨c1, c2, h0, h1, h2⟩ := h
    simp only [Kr.onL, VCL]
    exact ⟨c1, c2, h0, VC.lives hl hst h1, VCL.lives hl hst h2⟩
theorem VCs.lives (hl : Lives w w' Fz Fz' pp pp' ps ps' k) (hst : ∀ g, pp.st g → w'.heap[g]? = w.heap[g]? ∧ pp'.st g) : ∀ {xs : List D} {vs : List Value}, VCs w Fz pp ps vs xs → VCs w' Fz' pp' ps' vs (Kr.onL k xs)
  | [], vs, h => by simp only [VCs] at h; simp only [Kr.onL, VCs]; exact h
  | x :: xs, vs, h => by
    simp only [VCs] at h
    obtain ⟨v, vs', h0, h1, h2⟩ := h
    simp only [Kr.onL, VCs]
    exact ⟨v, vs', h0, VC.lives hl hst h1, VCs.lives hl hst h2⟩
end

mutual
theorem VV.lives (hl : Lives w w' Fz Fz' pp pp' ps ps' k) (hst : ∀ g, pp.st g → w'.heap[g]? = w.heap[g]? ∧ pp'.st g) : ∀ {d : D} {v : Value}, VV w Fz pp ps v d → VV w' Fz' pp' ps' v (k.on d)
  | .agg xs, v, h => by simp only [VV] at h; obtain ⟨cs, h1, h2⟩ := h; simp only [Kr.on, VV]; exact ⟨cs, h1, h2.lives hl hst⟩
  | .tup xs, v, h => by simp only [VV] at h; obtain ⟨vs, h1, h2⟩ := h; simp only [Kr.on, VV]; exact ⟨vs, h1, VVs.lives hl hst h2⟩
  | .undef, v, h => by simp only [Kr.on, VV]
  | .ptr r p, v, h => by
    simp only [VV] at h
    have h2 := VC.lives hl hst h
    rcases k.on_ptr r p with e | ⟨e, e'⟩ <;> rw [e] at h2 ⊢ <;> simp only [VV]
    exact h2
  | .slc r p off len, v, h => by
    simp only [VV] at h
    have h2 := VC.lives hl hst h
    rcases k.on_slc r p off len with e | ⟨e, e'⟩ <;> rw [e] at h2 ⊢ <;> simp only [VV]
    exact h2
  | .fn f caps, v, h => by simp only [VV] at h; have h2 := VC.lives hl hst h; simp only [Kr.on, VV] at h2 ⊢; exact h2
  | .int _ n, v, h => by simp only [VV] at h; have h2 := VC.lives hl hst h; simp only [Kr.on, VV] at h2 ⊢; exact h2
  | .bool b, v, h => by simp only [VV] at h; have h2 := VC.lives hl hst h; simp only [Kr.on, VV] at h2 ⊢; exact h2
  | .str s, v, h => by simp only [VV] at h; have h2 := VC.lives hl hst h; simp only [Kr.on, VV] at h2 ⊢; exact h2
  | .lst o te e xs, v, h => by simp only [VV] at h; have h2 := VC.lives hl hst h; simp only [Kr.on, VV] at h2 ⊢; exact h2
  | .ifc b, v, h => by simp only [VV] at h; have h2 := VC.lives hl hst h; simp only [Kr.on, VV] at h2 ⊢; exact h2
  | .pto x, v, h => by simp only [VV] at h; have h2 := VC.lives hl hst h; simp only [Kr.on, VV] at h2 ⊢; exact h2
theorem VVs.lives (hl : Lives w w' Fz Fz' pp pp' ps ps' k) (hst : ∀ g, pp.st g → w'.heap[g]? = w.heap[g]? ∧ pp'.st g) : ∀ {xs : List D} {vs : List Value}, VVs w Fz pp ps vs xs → VVs w' Fz' pp' ps' vs (Kr.onL k xs)
  | [], vs, h => by simp only [VVs] at h; simp only [Kr.onL, VVs]; exact h
  | x :: xs, vs, h => by
    simp only [VVs] at h
    obtain ⟨v, vs', h0, h1, h2⟩ := h
    simp only [Kr.onL, VVs]
    exact ⟨v, vs', h0, VV.lives hl hst h1, VVs.lives hl hst h2⟩
end
end

/-! ### A frame -/
/-- A root: a variable ('bx': its block, its type) or a row. -/
structure G where
  bx : Option (Nat × Nat)
  m : M

def G.root (x : G) : Root := ⟨x.bx.isSome, M.data x.m⟩
def G.ids (x : G) : List Nat := match x.bx with | some (g, _) => g :: M.ids x.m | none => M.ids x.m
def G.In (w : World) (x : G) : Prop := (∀ g te, x.bx = some (g, te) → w.heap[g]? = some (rowObj te (M.cells x.m) (0, 0))) ∧ M.In w x.m
def G.at_ (x : G) (p : List Stp) : Option (Nat × Nat) :=
  match x.bx with
  | some (g, _) => M.at_ x.m g 0 p
  | none => match p with | [] => none | _ :: _ => M.at_ x.m 0 0 p

/-- Of a row's header: the value of a part of it. -/
def SlcVal (m : M) (off len : Nat) (v : Value) : Prop :=
  ∃ own te e xs a n cap a' c, M.data m = .lst own te e xs ∧ M.cells m = [.slice a n cap] ∧ v = .slice a' len c ∧ off + c = cap ∧ off + len ≤ n ∧ ((0 < c ∨ off = 0) → a' = a.map (·.add (off * e)))

/-- Of a call: the world at its start, the blocks that it may write (those lent to it, and new ones), those that it may read and nobody writes. -/
structure Zone where
  w0 : World
  Own : Nat → Prop
  Fz0 : Nat → Prop
  lent : Rid → Option (Option (Nat × Nat) × List Value)
  lent99 : ∀ r b, lent r = some b → r.2 = 99
  fresh : ∀ g, w0.heap.size ≤ g → Own g
  kn : World → Prop
  knOk : ∀ w', (∀ g, ¬ Own g → w'.heap[g]? = w0.heap[g]?) → kn w'

def ptrOk (Z : Zone) (gs : Rid → Option G) : PP := ⟨fun r p v => ∃ x g o, gs r = some x ∧ x.at_ p = some (g, o) ∧ (M.get x.m p).isSome = true ∧ v = .pointer (some ⟨g, o, none⟩), fun g => ¬ Z.Own g ∧ g < Z.w0.heap.size⟩
def slcOk (gs : Rid → Option G) : PS := fun r p off len v => ∃ x m, gs r = some x ∧ M.get x.m p = some m ∧ SlcVal m off len v

structure Keeps (Z : Zone) (w : World) : Prop where
  os : w.os = Z.w0.os
  tape : w.tape = Z.w0.tape
  output : w.output = Z.w0.output
  size : Z.w0.heap.size ≤ w.heap.size
  block : ∀ g, ¬ Z.Own g → w.heap[g]? = Z.w0.heap[g]?

structure Inv (Z : Zone) (gs : Rid → Option G) (Fz : Nat → Prop) (st : St) (a : Act) (w : World) : Prop where
  rs : ∀ r, st.rs r = (gs r).map G.root
  ok : ∀ r x, gs r = some x → M.Ok w Fz x.m
  ins : ∀ r x, gs r = some x → x.In w
  nd : ∀ r x, gs r = some x → x.ids.Nodup
  row : ∀ r x, gs r = some x → x.bx = none → isAgg (M.data x.m) = false
  own : ∀ r x, gs r = some x → ∀ g ∈ x.ids, Z.Own g ∧ ¬ Fz g
  dis : ∀ r r' x x', gs r = some x → gs r' = some x' → r ≠ r' → ∀ g ∈ x.ids, g ∉ x'.ids
  fz : ∀ g, Fz g → g < w.heap.size
  fz0 : ∀ g, Z.Fz0 g → Fz g
  fzo : ∀ g, Fz g → Z.Fz0 g ∨ Z.Own g
  env : ∀ t, VV w Fz (ptrOk Z gs) (slcOk gs) (a.tmps.getD t undef) (st.env t)
  keeps : Keeps Z w
  lent : ∀ r x b, gs r = some x → Z.lent r = some b → x.bx = b.1 ∧ (b.1 = none → M.cells x.m = b.2)
  defers : a.defers = []

theorem G.In.lt {w : World} {x : G} (h : x.In w) : ∀ g ∈ x.ids, g < w.heap.size := by
  intro g hg
  unfold G.ids at hg
  split at hg
  · rename_i g' te he
    rcases List.mem_cons.1 hg with rfl | hg
    · exact (Array.getElem?_eq_some_iff.1 (h.1 _ _ he)).1
    · exact h.2.lt g hg
  · exact h.2.lt g hg

theorem G.ids_m (x : G) : ∀ g ∈ M.ids x.m, g ∈ x.ids := by
  intro g hg
  unfold G.ids
  split
  · exact List.mem_cons_of_mem _ hg
  · exact hg

end Go.Lft

/- What the machine's operations do, in the words of LftMem. -/
namespace Go.Lft

/-! ### Cells are of one cell -/
mutual
theorem FRep.one {w : World} {Fz : Nat → Prop} : ∀ {d : D} {cs : List Value}, FRep w Fz cs d → ∀ v ∈ cs, v.oneCell' = true
  | .int k n, cs, h, v, hv => by simp only [FRep] at h; subst h; simp at hv; subst hv; rfl
  | .bool b, cs, h, v, hv => by simp only [FRep] at h; subst h; simp at hv; subst hv; rfl
  | .str s, cs, h, v, hv => by simp only [FRep] at h; subst h; simp at hv; subst hv; rfl
  | .agg xs, cs, h, v, hv => by simp only [FRep] at h; exact FRepL.one h v hv
  | .lst true _ _ xs, cs, h, v, hv => by simp only [FRep] at h; obtain ⟨_, rfl⟩ := h; simp at hv; subst hv; rfl
  | .lst false _ e xs, cs, h, v, hv => by simp only [FRep] at h; obtain ⟨_, _, rfl, _⟩ := h; simp at hv; subst hv; rfl
  | .fn f caps, cs, h, v, hv => by simp only [FRep] at h; obtain ⟨_, rfl, _⟩ := h; simp at hv; subst hv; rfl
  | .ifc b, cs, h, v, hv => by
    simp only [FRep] at h
    obtain ⟨u, rfl, h⟩ := h
    simp at hv; subst hv
    cases b
    · simp at h; obtain ⟨t, x, rfl⟩ := h; rfl
    · simp at h; subst h; rfl
  | .pto x, cs, h, v, hv => by simp only [FRep] at h; obtain ⟨_, _, rfl, _⟩ := h; simp at hv; subst hv; rfl
  | .ptr .., cs, h, v, hv => by simp only [FRep] at h
  | .slc .., cs, h, v, hv => by simp only [FRep] at h
  | .tup _, cs, h, v, hv => by simp only [FRep] at h
  | .undef, cs, h, v, hv => by simp only [FRep] at h; obtain ⟨u, rfl, h⟩ := h; simp at hv; subst hv; exact h
theorem FRepL.one {w : World} {Fz : Nat → Prop} : ∀ {xs : List D} {cs : List Value}, FRepL w Fz cs xs → ∀ v ∈ cs, v.oneCell' = true
  | [], cs, h, v, hv => by simp only [FRepL] at h; subst h; simp at hv
  | x :: xs, cs, h, v, hv => by
    simp only [FRepL] at h
    obtain ⟨c1, c2, rfl, h1, h2⟩ := h
    rcases List.mem_append.1 hv with hv | hv
    · exact FRep.one h1 v hv
    · exact FRepL.one h2 v hv
end

mutual
theorem M.one {w : World} {Fz : Nat → Prop} : ∀ {m : M}, M.Ok w Fz m → ∀ v ∈ M.cells m, v.oneCell' = true
  | .leaf v d, h, u, hu => by simp only [M.Ok] at h; exact h.1.one u (by simpa [M.cells] using hu)
  | .agg xs, h, u, hu => by simp only [M.Ok] at h; exact M.oneL h u (by simpa [M.cells] using hu)
  | .lst g tg te e xs rest fr, h, u, hu => by simp [M.cells] at hu; subst hu; rfl
theorem M.oneL {w : World} {Fz : Nat → Prop} : ∀ {xs : List M}, M.OkL w Fz xs → ∀ v ∈ M.cellsL xs, v.oneCell' = true
  | [], h, u, hu => by simp [M.cellsL] at hu
  | x :: xs, h, u, hu => by
    simp only [M.OkL] at h
    rcases List.mem_append.1 (by simpa only [M.cellsL] using hu) with hu | hu
    · exact M.one h.1 u hu
    · exact M.oneL h.2 u hu
end

/-! ### Stores and loads -/
/-- A world like another one but for its heap. -/
structure Same (w w' : World) : Prop where
  os : w'.os = w.os
  tape : w'.tape = w.tape
  output : w'.output = w.output

theorem Same.refl (w : World) : Same w w := ⟨rfl, rfl, rfl⟩
theorem Same.trans {a b c : World} (h : Same a b) (k : Same b c) : Same a c := ⟨k.os.trans h.os, k.tape.trans h.tape, k.output.trans h.output⟩

theorem setCell_row {w : World} {g te i : Nat} {cs : List Value} {fr : Nat × Nat} (hg : w.heap[g]? = some (rowObj te cs fr)) (v : Value) :
    (w.setCell ⟨g, i, none⟩ v).heap[g]? = some (rowObj te (cs.set i v) fr) ∧ (∀ g', g' ≠ g → (w.setCell ⟨g, i, none⟩ v).heap[g']? = w.heap[g']?) ∧ (w.setCell ⟨g, i, none⟩ v).heap.size = w.heap.size ∧ Same w (w.setCell ⟨g, i, none⟩ v) := by
  refine ⟨?_, fun g' hg' => ?_, ?_, ⟨rfl, rfl, rfl⟩⟩
  · simp only [World.setCell, Array.getElem?_modify, if_true, hg, Option.map_some, rowObj]
    congr 2
    apply Array.ext'
    simp
  · simp only [World.setCell, Array.getElem?_modify]
    rw [if_neg (fun e => hg' e.symm)]
  · simp [World.setCell]

theorem run_storeCells_lies (P : Program) {g te : Nat} {fr : Nat × Nat} {R : List Value} : ∀ (vs : List Value) {o i : Nat} {L c : List Value} {w : World}, w.heap[g]? = some (rowObj te (L ++ c ++ R) fr) → L.length = o + i → c.length = vs.length →
    frOk fr (L.length + c.length + R.length) → (∀ v ∈ vs, v.oneCell' = true) →
    ∃ w', (storeCells ⟨g, o, none⟩ vs i).run P w = .ok () w' ∧ w'.heap[g]? = some (rowObj te (L ++ vs ++ R) fr) ∧ (∀ g', g' ≠ g → w'.heap[g']? = w.heap[g']?) ∧ w'.heap.size = w.heap.size ∧ Same w w'
  | [], o, i, L, c, w, hg, hL, hc, hf, h1 => by
    obtain rfl : c = [] := List.eq_nil_of_length_eq_zero (by simpa using hc)
    exact ⟨w, rfl, hg, fun _ _ => rfl, rfl, Same.refl w⟩
  | v :: vs, o, i, L, c, w, hg, hL, hc, hf, h1 => by
    cases c with
    | nil => simp at hc
    | cons u c =>
      have hadd : (⟨g, o, none⟩ : Addr).add i = ⟨g, o + i, none⟩ := by unfold Addr.add; split <;> simp_all
      have hcell : w.cell? ⟨g, o + i, none⟩ = some u := by
        simp only [World.cell?, hg, rowObj]
        simp [List.getElem?_append_right, hL]
      have hfro : w.frozen? ⟨g, o + i, none⟩ = false := by
        have := hf (o + i) (by simp [hL]; omega)
        simp only [World.frozen?, hg, rowObj]
        simpa using this
      have hset : (L ++ (u :: c) ++ R).set (o + i) v = (L ++ [v]) ++ c ++ R := by
        rw [← hL]
        simp
      obtain ⟨s1, s2, s3, s4⟩ := setCell_row (i := o + i) hg v
      rw [hset] at s1
      obtain ⟨w', r1, r2, r3, r4, r5⟩ := run_storeCells_lies P vs (o := o) (i := i + 1) (L := L ++ [v]) s1 (by simp [hL]; omega) (by simpa using hc) (by intro j hj; exact hf j (by simp at hj ⊢; omega)) (fun x hx => h1 x (List.mem_cons_of_mem _ hx))
      refine ⟨w', ?_, by rw [r2]; simp, fun g' hg' => (r3 g' hg').trans (s2 g' hg'), r4.trans s3, s4.trans r5⟩
      have hst : (store ((⟨g, o, none⟩ : Addr).add i) v).run P w = .ok () (w.setCell ⟨g, o + i, none⟩ v) := by
        rw [hadd, run_store P w _ v _ (h1 v (List.mem_cons_self ..)), hcell]
        simp [hfro]
      simp only [storeCells, Sem.run_bind, hst, Result.andThen_ok, r1]

theorem run_storeCells_written (P : Program) {w : World} {g o : Nat} {c vs : List Value} (h : Lies w g o c) (hl : c.length = vs.length) (h1 : ∀ v ∈ vs, v.oneCell' = true) :
    ∃ w', (storeCells ⟨g, o, none⟩ vs).run P w = .ok () w' ∧ Written w w' g o vs ∧ w'.heap.size = w.heap.size ∧ Same w w' := by
  obtain ⟨te, fr, L, R, e1, e2, e3⟩ := h
  obtain ⟨w', r1, r2, r3, r4, r5⟩ := run_storeCells_lies P vs (o := o) (i := 0) e2 (by omega) hl e3 h1
  exact ⟨w', r1, ⟨te, fr, L, c, R, e1, hl, e2, r2, r3⟩, r4, r5⟩

theorem run_loadCells_at (P : Program) {w : World} {a : Addr} {cs : List Value} (h : CellsAt w a cs) : (loadCells a cs.length).run P w = .ok cs.toArray w := by
  refine run_loadCells_list w a cs fun j v hv => ?_
  have hj := lt_of_get? hv
  rw [h j hj]
  rw [List.getElem?_eq_getElem hj] at hv
  exact hv

end Go.Lft

/- The operations are sound: those that change no memory. -/
namespace Go.Lft

def descAgg : TypeDesc → Bool
  | .struct _ | .array _ _ => true
  | _ => false

/-- The tables are the program's. -/
structure TbOk (P : Program) (T : Tb) : Prop where
  int : ∀ t k, T.ty t = .int k → P.underlying t = some (.int k)
  bool : ∀ t, T.ty t = .bool → P.underlying t = some .bool
  str : ∀ t, T.ty t = .str → P.underlying t = some .string
  iface : ∀ t, T.ty t = .iface → ∃ ms, P.underlying t = some (.interface ms)
  slice : ∀ t te e b, T.ty t = .slice te e b → P.underlying t = some (.slice te) ∧ ∃ i z, P.info? te = some i ∧ i.size = e ∧ i.bytes = b ∧ 0 < e ∧ i.zero = some z ∧ z.cells.size = e ∧ 0 < b
  lay : ∀ t, T.ty t ≠ .other → ∃ d i, P.underlying t = some d ∧ P.info? t = some i ∧ i.size = (layOf (T.ty t)).2 ∧ descAgg d = (layOf (T.ty t)).1
  off : ∀ s f k, T.off s f = some k → ∃ fs fl i, P.underlying s = some (.struct fs) ∧ fs[f]? = some fl ∧ fl.offset = k ∧ P.info? fl.type = some i ∧ i.size ≠ 0
  fl : ∀ s f a n, T.fl s f = some (a, n) → ∃ fs fl i d, P.underlying s = some (.struct fs) ∧ fs[f]? = some fl ∧ P.info? fl.type = some i ∧ i.size = n ∧ P.underlying fl.type = some d ∧ descAgg d = a
  zero : ∀ t d, T.zero t = some d → ∃ i z, P.info? t = some i ∧ i.zero = some z ∧ aggIs z.cells.toList d.leaves = true ∧ (isAgg d = true ∧ (∃ cs, z = .agg cs) ∨ isAgg d = false ∧ ∃ v, z.cells = #[v] ∧ z = v) ∧ (isAgg d = true → ∃ fs, P.underlying t = some (.struct fs) ∧ (fs.toList.mapM (fun f => (P.info? f.type).map fun i => (f.offset, i.size))).isSome = true)
  flat : ∀ t n, T.ty t = .strct n true → P.underlying t = some (.struct (P.fieldsOf t)) ∧ P.stoodInHeld t = false ∧ P.eqGuardType P.depth t = false ∧ (P.fieldsOf t).size = (T.kinds t).length ∧
    ∀ i (f : Field), (P.fieldsOf t)[i]? = some f → f.name ≠ "_" ∧ f.offset = i ∧ ((T.kinds t)[i]? = some 0 ∧ (∃ k, P.underlying f.type = some (.int k)) ∨ (T.kinds t)[i]? = some 1 ∧ P.underlying f.type = some .string ∨ (T.kinds t)[i]? = some 2 ∧ P.underlying f.type = some .bool)

/-! ### Literals -/
theorem litIs_frep {w : World} {Fz : Nat → Prop} : ∀ {v : Value} {d : D}, litIs v d = true → FRep w Fz [v] d ∧ isAgg d = false := by
  intro v d h
  cases v <;> cases d <;> simp_all [litIs, FRep, isAgg]
  case string.str s l =>
    subst h
    rfl
  case slice.lst a n c o te e xs =>
    cases o
    · split at h <;> simp_all
    · split at h <;> simp_all [FRep]
  case nilIface.ifc b => cases b <;> simp_all

theorem aggIs_append : ∀ {ds es : List D} {vs : List Value}, aggIs vs (ds ++ es) = true → ∃ v1 v2, vs = v1 ++ v2 ∧ aggIs v1 ds = true ∧ aggIs v2 es = true
  | [], es, vs, h => ⟨[], vs, rfl, rfl, h⟩
  | d :: ds, es, [], h => by simp [aggIs] at h
  | d :: ds, es, v :: vs, h => by
    simp only [List.cons_append, aggIs, Bool.and_eq_true] at h
    obtain ⟨v1, v2, rfl, h2, h3⟩ := aggIs_append h.2
    exact ⟨v :: v1, v2, rfl, by simp [aggIs, h.1, h2], h3⟩

theorem aggIs_one {d : D} {vs : List Value} (h : aggIs vs [d] = true) : ∃ v, vs = [v] ∧ litIs v d = true := by
  match vs, h with
  | [], h => simp [aggIs] at h
  | [v], h => exact ⟨v, rfl, by simpa [aggIs] using h⟩
  | v :: u :: vs, h => simp [aggIs] at h

mutual
theorem aggIs_frep {w : World} {Fz : Nat → Prop} : ∀ {d : D} {vs : List Value}, aggIs vs d.leaves = true → FRep w Fz vs d
  | .agg xs, vs, h => by simp only [D.leaves] at h; simp only [FRep]; exact aggIsL_frep h
  | .int k n, vs, h => by simp only [D.leaves] at h; obtain ⟨v, rfl, h'⟩ := aggIs_one h; exact (litIs_frep h').1
  | .bool b, vs, h => by simp only [D.leaves] at h; obtain ⟨v, rfl, h'⟩ := aggIs_one h; exact (litIs_frep h').1
  | .str s, vs, h => by simp only [D.leaves] at h; obtain ⟨v, rfl, h'⟩ := aggIs_one h; exact (litIs_frep h').1
  | .lst o te e xs, vs, h => by simp only [D.leaves] at h; obtain ⟨v, rfl, h'⟩ := aggIs_one h; exact (litIs_frep h').1
  | .fn f caps, vs, h => by simp only [D.leaves] at h; obtain ⟨v, rfl, h'⟩ := aggIs_one h; exact (litIs_frep h').1
  | .ifc b, vs, h => by simp only [D.leaves] at h; obtain ⟨v, rfl, h'⟩ := aggIs_one h; exact (litIs_frep h').1
  | .pto x, vs, h => by simp only [D.leaves] at h; obtain ⟨v, rfl, h'⟩ := aggIs_one h; exact (litIs_frep h').1
  | .ptr r p, vs, h => by simp only [D.leaves] at h; obtain ⟨v, rfl, h'⟩ := aggIs_one h; exact (litIs_frep h').1
  | .slc r p a b, vs, h => by simp only [D.leaves] at h; obtain ⟨v, rfl, h'⟩ := aggIs_one h; exact (litIs_frep h').1
  | .tup xs, vs, h => by simp only [D.leaves] at h; obtain ⟨v, rfl, h'⟩ := aggIs_one h; exact (litIs_frep h').1
  | .undef, vs, h => by simp only [D.leaves] at h; obtain ⟨v, rfl, h'⟩ := aggIs_one h; exact (litIs_frep h').1
theorem aggIsL_frep {w : World} {Fz : Nat → Prop} : ∀ {xs : List D} {vs : List Value}, aggIs vs (D.leavesL xs) = true → FRepL w Fz vs xs
  | [], [], h => by simp only [FRepL]
  | [], v :: vs, h => by simp [D.leavesL, aggIs] at h
  | x :: xs, vs, h => by
    simp only [D.leavesL] at h
    obtain ⟨v1, v2, rfl, h1, h2⟩ := aggIs_append h
    simp only [FRepL]
    exact ⟨v1, v2, rfl, aggIs_frep h1, aggIsL_frep h2⟩
end

/-! ### Operands -/
section
variable {P : Program} {T : Tb} {Z : Zone} {gs : Rid → Option G} {Fz : Nat → Prop} {st : St} {a : Act} {w : World}

theorem VV.of_frep {v : Value} {d : D} {pp : PP} {ps : PS} (h : FRep w Fz [v] d) (ha : isAgg d = false) : VV w Fz pp ps v d := VV.of_VC (VC.of_frep h) ha

theorem const_ok (hT : TbOk P T) {hint : Nat} {v : Value} {d : D} (h : ofConst T hint v = some d) {pp : PP} {ps : PS} : VV w Fz pp ps v d := by
  unfold ofConst at h
  split at h
  · obtain rfl := Option.some.inj h; simp [VV, VC, FRep]
  · obtain rfl := Option.some.inj h; simp [VV, VC, FRep]
  · obtain rfl := Option.some.inj h; simp [VV, VC, FRep]
  · split at h
    · obtain rfl := Option.some.inj h; simp [VV, VC, FRep]
    · cases h
  · obtain rfl := Option.some.inj h; simp [VV, VC, FRep]
  · obtain rfl := Option.some.inj h; simp [VV]
  · rename_i cs
    simp only [Option.bind_eq_some_iff] at h
    obtain ⟨d', h1, h2⟩ := h
    split at h2
    · rename_i hag
      obtain rfl := Option.some.inj h2
      simp only [Bool.and_eq_true] at hag
      have hf := aggIs_frep (w := w) (Fz := Fz) hag.2
      cases d' <;> simp [isAgg] at hag
      simp only [VV]
      exact ⟨cs.toList, by simp, VCL.of_frep (by simpa only [FRep] using hf)⟩
    · cases h2
  · cases h


theorem ev_ok (hT : TbOk P T) (hi : Inv Z gs Fz st a w) {hint : Nat} {x : Operand} {d : D} (h : st.ev T hint x = some d) : VV w Fz (ptrOk Z gs) (slcOk gs) (a.eval x) d := by
  cases x with
  | tmp t =>
    simp only [St.ev, Option.some.injEq] at h
    subst h
    exact hi.env t
  | const v => exact const_ok hT h
  | global g => simp [St.ev] at h
  | func f =>
    simp only [St.ev, Option.some.injEq] at h
    subst h
    simp [VV, VC, Act.eval, VCs]

/-! ### What is asked of an operation -/
def OpSound (P : Program) (Z : Zone) (o : Oper) (a : Act) (w : World) (st' : St) : Prop :=
  ∀ (K : Act → World → Prop) (Q : Exit → Act → World → Prop), (∀ a' w' gs' Fz', Inv Z gs' Fz' st' a' w' → a'.tmps.size = a.tmps.size → K a' w') → o.wp P a w K Q

theorem put_size (a : Act) (dst : Option Nat) (v : Value) : (a.put dst v).tmps.size = a.tmps.size := by
  cases dst <;> simp [Act.put]

theorem Kr.none_lives (w : World) (Fz : Nat → Prop) (pp : PP) (ps : PS) : Lives w w Fz Fz pp pp ps ps Kr.none := ⟨fun _ _ => rfl, fun _ h => h, fun _ _ _ _ h => h, fun _ _ _ _ _ _ h => h⟩

/-- The temporaries after an operation that yields a value. -/
theorem env_put {w w' : World} {Fz Fz' : Nat → Prop} {pp pp' : PP} {ps ps' : PS} {env : Nat → D} {ks : List Kill} {dst : Option Nat} {v : Value} {d : D} (hl : Lives w w' Fz Fz' pp pp' ps ps' (krs ks)) (hst : ∀ g, pp.st g → w'.heap[g]? = w.heap[g]? ∧ pp'.st g)
    (he : ∀ t, VV w Fz pp ps (a.tmps.getD t undef) (env t)) (hv : dst.isSome = true → VV w' Fz' pp' ps' v d) (hd : ∀ t, dst = some t → t < a.tmps.size) : ∀ t, VV w' Fz' pp' ps' ((a.put dst v).tmps.getD t undef) (putO dst d (killAll ks env) t) := by
  intro t
  have h1 : VV w' Fz' pp' ps' (a.tmps.getD t undef) (killAll ks env t) := by rw [killAll_krs]; exact (he t).lives hl hst
  cases dst with
  | none => simpa only [Act.put, putO] using h1
  | some s =>
    simp only [Act.put, putO, upd]
    by_cases hs : t = s
    · subst hs
      rw [if_pos rfl]
      have := hd t rfl
      simp only [Array.getD_eq_getD_getElem?, Array.getElem?_setIfInBounds_self_of_lt this, Option.getD_some]
      exact hv rfl
    · rw [if_neg hs]
      simp only [Array.getD_eq_getD_getElem?, Array.getElem?_setIfInBounds_ne (Ne.symm hs)]
      simpa only [Array.getD_eq_getD_getElem?] using h1

theorem Inv.put_pure (hi : Inv Z gs Fz st a w) {dst : Option Nat} (hd : ∀ t, dst = some t → t < a.tmps.size) {v : Value} {d : D} (hv : dst.isSome = true → VV w Fz (ptrOk Z gs) (slcOk gs) v d) : Inv Z gs Fz (st.app dst (pureE d)) (a.put dst v) w :=
  { hi with
    rs := fun r => by simpa only [St.app, pureE, updAll] using hi.rs r
    env := fun t => by
      have := env_put (a := a) (ks := []) (Kr.none_lives w Fz (ptrOk Z gs) (slcOk gs)) (fun _ h => ⟨rfl, h⟩) hi.env hv hd t
      simpa only [St.app, pureE] using this
    defers := by cases dst <;> simpa [Act.put] using hi.defers }

/-- An operation that yields a value and leaves the world alone. -/
theorem op_value (hi : Inv Z gs Fz st a w) {o : Oper} (hd : ∀ t, o.dst = some t → t < a.tmps.size) {v : Value} {d : D} (hrun : (execOp a.eval o).run P w = .ok (.value v) w) (hv : VV w Fz (ptrOk Z gs) (slcOk gs) v d) :
    OpSound P Z o a w (st.app o.dst (pureE d)) := by
  intro K Q hK
  unfold Oper.wp
  rw [hrun]
  exact hK _ _ gs Fz (hi.put_pure hd fun _ => hv) (put_size a o.dst v)

/-! ### Moves -/
theorem VV.int_inv {w : World} {Fz : Nat → Prop} {pp : PP} {ps : PS} {v : Value} {k : IntKind} {n : Int} (h : VV w Fz pp ps v (.int k n)) : v = .int k n := by simpa [VV, VC, FRep] using h
theorem VV.bool_inv {w : World} {Fz : Nat → Prop} {pp : PP} {ps : PS} {v : Value} {b : Bool} (h : VV w Fz pp ps v (.bool b)) : v = .bool b := by simpa [VV, VC, FRep] using h
theorem VV.str_inv {w : World} {Fz : Nat → Prop} {pp : PP} {ps : PS} {v : Value} {s : List UInt8} (h : VV w Fz pp ps v (.str s)) : v = .string ⟨s.toArray⟩ := by simpa [VV, VC, FRep] using h
theorem VV.ptr_inv {w : World} {Fz : Nat → Prop} {pp : PP} {ps : PS} {v : Value} {r : Rid} {p : List Stp} (h : VV w Fz pp ps v (.ptr r p)) : pp r p v := by
  simp only [VV, VC] at h
  obtain ⟨u, h1, h2⟩ := h
  simp only [List.cons.injEq, and_true] at h1
  rw [h1]; exact h2
theorem VV.slc_inv {w : World} {Fz : Nat → Prop} {pp : PP} {ps : PS} {v : Value} {r : Rid} {p : List Stp} {off len : Nat} (h : VV w Fz pp ps v (.slc r p off len)) : ps r p off len v := by
  simp only [VV, VC] at h
  obtain ⟨u, h1, h2⟩ := h
  simp only [List.cons.injEq, and_true] at h1
  rw [h1]; exact h2
theorem VV.frep_inv {w : World} {Fz : Nat → Prop} {pp : PP} {ps : PS} {v : Value} {d : D} (h : VV w Fz pp ps v d) (hd : (∃ o te e xs, d = .lst o te e xs) ∨ ∃ b, d = .ifc b) : FRep w Fz [v] d := by
  rcases hd with ⟨o, te, e, xs, rfl⟩ | ⟨b, rfl⟩ <;> simpa only [VV, VC] using h
theorem VV.pto_inv {w : World} {Fz : Nat → Prop} {pp : PP} {ps : PS} {v : Value} {x : D} (h : VV w Fz pp ps v (.pto x)) : ∃ a c, v = .pointer (some a) ∧ (Fz a.block ∨ pp.st a.block) ∧ CellsAt w a c ∧ FRep w Fz c x := by
  simp only [VV, VC] at h
  obtain ⟨a, c, h1, h2⟩ := h
  simp only [List.cons.injEq, and_true] at h1
  exact ⟨a, c, h1, h2⟩

end
end Go.Lft

/- The operations are sound: places, reads, arithmetic. -/
namespace Go.Lft

/-! ### Places -/
theorem M.get_append : ∀ (p q : List Stp) (m : M), M.get m (p ++ q) = (M.get m p).bind fun x => M.get x q
  | [], q, m => by simp [M.get_nil]
  | s :: p, q, m => by
    cases m with
    | leaf v d => cases s <;> simp [M.get]
    | agg xs =>
      cases s with
      | elm i => simp [M.get]
      | fld i =>
        simp only [List.cons_append, M.get]
        cases xs[i]? with
        | none => rfl
        | some x => simp only [Option.bind_some, M.get_append p q x]
    | lst g tg te e xs rest fr =>
      cases s with
      | fld i => simp [M.get]
      | elm i =>
        simp only [List.cons_append, M.get]
        cases xs[i]? with
        | none => rfl
        | some x => simp only [Option.bind_some, M.get_append p q x]

theorem M.at_append : ∀ (p q : List Stp) {m m' : M} {g o g' o' : Nat}, M.get m p = some m' → M.at_ m g o p = some (g', o') → M.at_ m g o (p ++ q) = M.at_ m' g' o' q
  | [], q, m, m', g, o, g', o', h1, h2 => by
    rw [M.get_nil] at h1
    rw [M.at_nil] at h2
    obtain rfl := Option.some.inj h1
    obtain ⟨rfl, rfl⟩ := Prod.mk.inj (Option.some.inj h2)
    rfl
  | s :: p, q, m, m', g, o, g', o', h1, h2 => by
    cases m with
    | leaf v d => cases s <;> simp [M.get] at h1
    | agg xs =>
      cases s with
      | elm i => simp [M.get] at h1
      | fld i =>
        simp only [M.get, Option.bind_eq_some_iff] at h1
        obtain ⟨x, h3, h4⟩ := h1
        simp only [M.at_, h3, Option.bind_some] at h2
        simp only [List.cons_append, M.at_, h3, Option.bind_some]
        exact M.at_append p q h4 h2
    | lst g1 tg te e xs rest fr =>
      cases s with
      | fld i => simp [M.get] at h1
      | elm i =>
        simp only [M.get, Option.bind_eq_some_iff] at h1
        obtain ⟨x, h3, h4⟩ := h1
        simp only [M.at_, h3, Option.bind_some] at h2
        simp only [List.cons_append, M.at_, h3, Option.bind_some]
        exact M.at_append p q h4 h2

theorem G.at_append {x : G} {p q : List Stp} {m' : M} {g o : Nat} (h1 : M.get x.m p = some m') (h2 : x.at_ p = some (g, o)) : x.at_ (p ++ q) = M.at_ m' g o q := by
  unfold G.at_ at h2 ⊢
  cases hb : x.bx with
  | some b => simp only [hb] at h2 ⊢; exact M.at_append p q h1 h2
  | none =>
    simp only [hb] at h2 ⊢
    cases p with
    | nil => simp at h2
    | cons s p => simp only [List.cons_append] at h2 ⊢; exact M.at_append (s :: p) q h1 h2

theorem M.at_elm : ∀ (p : List Stp) {m y : M} {g1 tg te e : Nat} {xs : List M} {rest : List Value} {fr : Nat × Nat} {k : Nat} (g o : Nat), M.get m p = some (.lst g1 tg te e xs rest fr) → xs[k]? = some y → M.at_ m g o (p ++ [.elm k]) = some (g1, k * e) := by
  intro p m y g1 tg te e xs rest fr k g o h1 h2
  obtain ⟨g', o', h3⟩ := M.get_at p g o h1
  rw [M.at_append p [.elm k] h1 h3]
  simp [M.at_, h2, M.at_nil]

theorem G.at_elm {x : G} {p : List Stp} {y : M} {g1 tg te e : Nat} {xs : List M} {rest : List Value} {fr : Nat × Nat} {k : Nat} (h1 : M.get x.m p = some (.lst g1 tg te e xs rest fr)) (h2 : xs[k]? = some y) : x.at_ (p ++ [.elm k]) = some (g1, k * e) := by
  unfold G.at_
  cases hb : x.bx with
  | some b => exact M.at_elm p _ _ h1 h2
  | none =>
    cases p with
    | nil => exact M.at_elm [] 0 0 h1 h2
    | cons s p => exact M.at_elm (s :: p) 0 0 h1 h2

section
variable {P : Program} {T : Tb} {Z : Zone} {gs : Rid → Option G} {Fz : Nat → Prop} {st : St} {a : Act} {w : World}

/-- What lies at a place of a root. -/
theorem Inv.lies (hi : Inv Z gs Fz st a w) {r : Rid} {x : G} (hx : gs r = some x) {p : List Stp} {m' : M} {g o : Nat} (h1 : M.get x.m p = some m') (h2 : x.at_ p = some (g, o)) : Lies w g o (M.cells m') ∧ M.In w m' ∧ M.Ok w Fz m' := by
  have hok := hi.ok r x hx
  have hin := hi.ins r x hx
  unfold G.at_ at h2
  cases hb : x.bx with
  | some b =>
    obtain ⟨g0, te⟩ := b
    simp only [hb] at h2
    refine M.lies p hok hin.2 ?_ h1 h2
    exact ⟨te, (0, 0), [], [], rfl, by simpa using hin.1 g0 te hb, fun i _ h => by simp at h⟩
  | none =>
    simp only [hb] at h2
    have hrow := hi.row r x hx hb
    obtain ⟨bx, m⟩ := x
    simp only at h1 h2 hok hin hrow
    cases p with
    | nil => simp at h2
    | cons s p =>
      simp only at h2
      cases m with
      | leaf v d => cases s <;> simp [M.get] at h1
      | agg xs => simp [M.data, isAgg] at hrow
      | lst g1 tg te e xs rest fr =>
        cases s with
        | fld i => simp [M.get] at h1
        | elm i =>
          simp only [M.get, Option.bind_eq_some_iff] at h1
          obtain ⟨y, h3, h4⟩ := h1
          simp only [M.at_, h3, Option.bind_some] at h2
          simp only [M.Ok] at hok
          have hin2 := hin.2
          simp only [M.In] at hin2
          exact M.lies p (hok.2.1.get h3) (hin2.2.get h3) (M.lst_lies hin2.1 hok.2.2.1 hok.2.2.2.2.2 h3) h4 h2

theorem Inv.root (hi : Inv Z gs Fz st a w) {r : Rid} {root : Root} (h : st.rs r = some root) : ∃ x, gs r = some x ∧ root = x.root := by
  rw [hi.rs] at h
  obtain ⟨x, h1, h2⟩ := Option.map_eq_some_iff.1 h
  exact ⟨x, h1, h2.symm⟩

/-- A place of the data is one of the memory. -/
theorem Inv.part (hi : Inv Z gs Fz st a w) {r : Rid} {root : Root} (h : st.rs r = some root) {p : List Stp} {d : D} (hd : root.c.get p = some d) : ∃ x m', gs r = some x ∧ root = x.root ∧ M.get x.m p = some m' ∧ M.data m' = d ∧ M.Ok w Fz m' := by
  obtain ⟨x, h1, rfl⟩ := hi.root h
  obtain ⟨m', h2, h3, h4⟩ := M.get_data p (hi.ok r x h1) hd
  exact ⟨x, m', h1, rfl, h2, h3, h4⟩

theorem add0 (a : Option Addr) (e : Nat) : a.map (·.add (0 * e)) = a := by
  cases a with
  | none => rfl
  | some ad => simp [Addr.add]

theorem slcVal_row {m : M} {te e : Nat} {own : Bool} {xs : List D} {a : Option Addr} {n cap : Nat} (h1 : M.data m = .lst own te e xs) (h2 : M.cells m = [.slice a n cap]) : SlcVal m 0 n (.slice a n cap) :=
  ⟨own, te, e, xs, a, n, cap, a, cap, h1, h2, rfl, by simp, by simp, fun _ => (add0 a e).symm⟩

mutual
/-- What is loaded from a place, as a temporary holds it. -/
theorem expose_ok {r : Rid} {x : G} (hx : gs r = some x) : ∀ {m : M} (p : List Stp), M.get x.m p = some m → M.Ok w Fz m → VC w Fz (ptrOk Z gs) (slcOk gs) (M.cells m) (D.expose r p (M.data m))
  | .leaf v d, p, hg, hok => by
    simp only [M.Ok] at hok
    simp only [M.cells, M.data]
    cases d with
    | agg xs => simp [isAgg] at hok
    | lst o te e xs =>
      cases o with
      | false => simp only [D.expose]; exact VC.of_frep hok.1
      | true =>
        have h := hok.1
        simp only [FRep] at h
        obtain ⟨rfl, h2⟩ := h
        simp only [List.cons.injEq, and_true] at h2
        subst h2
        simp only [D.expose, VC, List.length_nil]
        exact ⟨_, rfl, x, _, hx, hg, slcVal_row (te := te) (e := e) (own := true) (xs := []) rfl rfl⟩
    | int k n => simp only [D.expose]; exact VC.of_frep hok.1
    | bool b => simp only [D.expose]; exact VC.of_frep hok.1
    | str s => simp only [D.expose]; exact VC.of_frep hok.1
    | fn f caps => simp only [D.expose]; exact VC.of_frep hok.1
    | ifc b => simp only [D.expose]; exact VC.of_frep hok.1
    | pto y => simp only [D.expose]; exact VC.of_frep hok.1
    | ptr _ _ => have h := hok.1; simp only [FRep] at h
    | slc _ _ _ _ => have h := hok.1; simp only [FRep] at h
    | tup _ => have h := hok.1; simp only [FRep] at h
    | undef => simp only [D.expose]; exact VC.of_frep hok.1
  | .agg xs, p, hg, hok => by
    simp only [M.Ok] at hok
    simp only [M.cells, M.data, D.expose, VC]
    refine exposeL_ok hx p xs 0 (fun j y hy => ?_) hok
    rw [M.get_append, hg]
    simp [M.get, hy, M.get_nil]
  | .lst g tg te e xs rest fr, p, hg, hok => by
    simp only [M.cells, M.data, D.expose, VC, M.dataL_length]
    exact ⟨_, rfl, x, _, hx, hg, slcVal_row (te := tg) (e := e) (own := true) (xs := M.dataL xs) rfl rfl⟩
theorem exposeL_ok {r : Rid} {x : G} (hx : gs r = some x) (p : List Stp) : ∀ (xs : List M) (i : Nat), (∀ j y, xs[j]? = some y → M.get x.m (p ++ [.fld (i + j)]) = some y) → M.OkL w Fz xs → VCL w Fz (ptrOk Z gs) (slcOk gs) (M.cellsL xs) (D.exposeL r p i (M.dataL xs))
  | [], i, hg, hok => by simp only [M.cellsL, M.dataL, D.exposeL, VCL]
  | y :: ys, i, hg, hok => by
    simp only [M.OkL] at hok
    simp only [M.cellsL, M.dataL, D.exposeL, VCL]
    refine ⟨_, _, rfl, expose_ok hx (p ++ [.fld i]) (by simpa using hg 0 y rfl) hok.1, exposeL_ok hx p ys (i + 1) (fun j z hz => ?_) hok.2⟩
    have := hg (j + 1) z (by simpa using hz)
    rwa [show i + (j + 1) = i + 1 + j by omega] at this
end

/-! ### Loads -/
theorem run_loadVar_agg {t : Nat} {d : TypeDesc} {i : TypeInfo} {ad : Addr} {cs : List Value} (hu : P.underlying t = some d) (hi : P.info? t = some i) (hs : i.size = cs.length) (hd : descAgg d = true) (h : CellsAt w ad cs) :
    (loadVar t ad).run P w = .ok (.agg cs.toArray) w := by
  have hl := run_loadCells_at P h
  unfold loadVar Go.isAgg sizeOf typeInfo
  cases d <;> simp [descAgg] at hd <;> simp [run_underlying hu, hi, hs, hl]

theorem run_loadVar_one {t : Nat} {d : TypeDesc} {ad : Addr} {v : Value} (hu : P.underlying t = some d) (hd : descAgg d = false) (h : w.cell? ad = some v) :
    (loadVar t ad).run P w = .ok v w := by
  unfold loadVar Go.isAgg
  cases d <;> simp [descAgg] at hd <;> simp [run_underlying hu, h]

theorem D.expose_shape : ∀ (r : Rid) (p : List Stp) (d : D), isAgg (D.expose r p d) = isAgg d
  | r, p, .agg xs => by simp only [D.expose, isAgg]
  | r, p, .lst true te e xs => by simp only [D.expose, isAgg]
  | r, p, .lst false te e xs => by simp only [D.expose, isAgg]
  | r, p, .int .. => by simp only [D.expose, isAgg]
  | r, p, .bool _ => by simp only [D.expose, isAgg]
  | r, p, .str _ => by simp only [D.expose, isAgg]
  | r, p, .fn .. => by simp only [D.expose, isAgg]
  | r, p, .ifc _ => by simp only [D.expose, isAgg]
  | r, p, .pto _ => by simp only [D.expose, isAgg]
  | r, p, .ptr .. => by simp only [D.expose, isAgg]
  | r, p, .slc .. => by simp only [D.expose, isAgg]
  | r, p, .tup _ => by simp only [D.expose, isAgg]
  | r, p, .undef => by simp only [D.expose, isAgg]
mutual
theorem D.expose_size : ∀ (r : Rid) (p : List Stp) (d : D), D.size (D.expose r p d) = D.size d
  | r, p, .agg xs => by simp only [D.expose, D.size]; exact D.exposeL_size r p 0 xs
  | r, p, .lst true te e xs => by simp only [D.expose, D.size]
  | r, p, .lst false te e xs => by simp only [D.expose, D.size]
  | r, p, .int .. => by simp only [D.expose, D.size]
  | r, p, .bool _ => by simp only [D.expose, D.size]
  | r, p, .str _ => by simp only [D.expose, D.size]
  | r, p, .fn .. => by simp only [D.expose, D.size]
  | r, p, .ifc _ => by simp only [D.expose, D.size]
  | r, p, .pto _ => by simp only [D.expose, D.size]
  | r, p, .ptr .. => by simp only [D.expose, D.size]
  | r, p, .slc .. => by simp only [D.expose, D.size]
  | r, p, .tup _ => by simp only [D.expose, D.size]
  | r, p, .undef => by simp only [D.expose, D.size]
theorem D.exposeL_size : ∀ (r : Rid) (p : List Stp) (i : Nat) (xs : List D), D.sizeL (D.exposeL r p i xs) = D.sizeL xs
  | r, p, i, [] => by simp only [D.exposeL, D.sizeL]
  | r, p, i, x :: xs => by simp only [D.exposeL, D.sizeL, D.expose_size, D.exposeL_size]
end

theorem lay_ne {t : Ty} {a : Bool} {n : Nat} (h : layOf t = (a, n)) (hn : 0 < n) : t ≠ .other := by
  rintro rfl
  simp [layOf] at h
  omega

theorem D.size_pos {d : D} (h : isAgg d = false) : 0 < D.size d := by rw [D.size_of_not_agg h]; omega

/-- A load of cells that tell a datum of the type's shape. -/
theorem load_cells (hT : TbOk P T) {t : Nat} {ad : Addr} {cs : List Value} {d : D} {pp : PP} {ps : PS} (hc : CellsAt w ad cs) (hv : VC w Fz pp ps cs d) (hl : cs.length = D.size d) (hfit : fitsTy (T.ty t) d = true) :
    ∃ v, (loadVar t ad).run P w = .ok v w ∧ VV w Fz pp ps v d := by
  unfold fitsTy at hfit
  have hfit := of_decide_eq_true hfit
  have hne : T.ty t ≠ .other := by
    cases ha : isAgg d
    · exact lay_ne hfit (D.size_pos ha)
    · intro e; rw [e, ha] at hfit; simp [layOf] at hfit
  obtain ⟨de, i, h1, h2, h3, h4⟩ := hT.lay t hne
  rw [hfit] at h3 h4
  cases ha : isAgg d with
  | true =>
    simp only [ha] at h3 h4
    refine ⟨_, run_loadVar_agg h1 h2 (by rw [h3, hl]) h4 hc, ?_⟩
    cases d <;> simp [isAgg] at ha
    simp only [VV]
    exact ⟨cs, rfl, by simpa only [VC] using hv⟩
  | false =>
    simp only [ha] at h4
    rw [D.size_of_not_agg ha] at hl
    match cs, hl with
    | [v], _ =>
      refine ⟨v, run_loadVar_one h1 h4 (by simpa [Addr.add] using hc 0 (by simp)), VV.of_VC hv ha⟩

theorem FRep.vc {d : D} {cs : List Value} {pp : PP} {ps : PS} (h : FRep w Fz cs d) : VC w Fz pp ps cs d := VC.of_frep h

/-- A load. -/
theorem load_ok (hT : TbOk P T) (hi : Inv Z gs Fz st a w) {t : Nat} {v : Value} {pd d : D} (hv : VV w Fz (ptrOk Z gs) (slcOk gs) v pd) (h : loadEff st pd = some d) (hfit : fitsTy (T.ty t) d = true) :
    ∃ u, (Instr.loadAt t v).run P w = .ok u w ∧ VV w Fz (ptrOk Z gs) (slcOk gs) u d := by
  cases pd with
  | ptr r p =>
    obtain ⟨x, g, o, hx, hat, hsome, rfl⟩ := hv.ptr_inv
    simp only [loadEff, Option.bind_eq_some_iff, Option.map_eq_some_iff] at h
    obtain ⟨root, h1, d', h2, rfl⟩ := h
    obtain ⟨x', m', h3, rfl, h4, rfl, h5⟩ := hi.part h1 h2
    rw [hx] at h3
    obtain rfl := Option.some.inj h3
    obtain ⟨hl, _, _⟩ := hi.lies hx h4 hat
    obtain ⟨u, r1, r2⟩ := load_cells hT (pp := ptrOk Z gs) (ps := slcOk gs) hl.cells (expose_ok hx p h4 h5) (by rw [D.expose_size]; exact M.len h5) hfit
    exact ⟨u, by simpa [Instr.loadAt, Instr.sureAddr] using r1, r2⟩
  | pto y =>
    simp only [loadEff, Option.some.injEq] at h
    subst h
    obtain ⟨ad, c, e1, _, h2, h3⟩ := hv.pto_inv
    subst e1
    obtain ⟨u, r1, r2⟩ := load_cells hT (pp := ptrOk Z gs) (ps := slcOk gs) h2 h3.vc h3.len hfit
    exact ⟨u, by simpa [Instr.loadAt, Instr.sureAddr] using r1, r2⟩
  | _ => simp [loadEff] at h

/-! ### Addresses -/
theorem fieldPlace_run {fl : Field} {i : TypeInfo} {ad : Addr} (hi : P.info? fl.type = some i) (hs : i.size ≠ 0) : (fieldPlace ad fl).run P w = .ok (ad.add fl.offset) w := by
  simp [fieldPlace, sizeOf, typeInfo, hi, hs]

theorem M.dataL_take (xs : List M) (n : Nat) : (M.dataL xs).take n = M.dataL (xs.take n) := by rw [M.dataL_map, M.dataL_map, List.map_take]
theorem M.OkL.take {xs : List M} (h : M.OkL w Fz xs) (n : Nat) : M.OkL w Fz (xs.take n) := M.OkL_iff.2 fun x hx => M.OkL_iff.1 h x (List.mem_of_mem_take hx)

theorem frepL_split : ∀ {xs : List D} {c : List Value} {f : Nat} {d : D}, FRepL w Fz c xs → xs[f]? = some d → ∃ c1 c2 c3, c = c1 ++ c2 ++ c3 ∧ c1.length = D.sizeL (xs.take f) ∧ FRep w Fz c2 d
  | [], c, f, d, h, hf => by simp at hf
  | x :: xs, c, 0, d, h, hf => by
    simp only [FRepL] at h
    obtain ⟨c1, c2, rfl, h1, h2⟩ := h
    simp only [List.getElem?_cons_zero, Option.some.injEq] at hf
    subst hf
    exact ⟨[], c1, c2, by simp, by simp [D.sizeL], h1⟩
  | x :: xs, c, f + 1, d, h, hf => by
    simp only [FRepL] at h
    obtain ⟨c1, c2, rfl, h1, h2⟩ := h
    simp only [List.getElem?_cons_succ] at hf
    obtain ⟨e1, e2, e3, rfl, h3, h4⟩ := frepL_split h2 hf
    exact ⟨c1 ++ e1, e2, e3, by simp [List.append_assoc], by simp [D.sizeL, h1.len, h3], h4⟩

theorem CellsAt.mid {ad : Addr} {c1 c2 c3 : List Value} (h : CellsAt w ad (c1 ++ c2 ++ c3)) : CellsAt w (ad.add c1.length) c2 := by
  intro j hj
  rw [add_add]
  have := h (c1.length + j) (by simp; omega)
  rw [this]
  simp [List.getElem_append_right, List.getElem_append_left, hj]

theorem fieldAddr_ok (hT : TbOk P T) (hi : Inv Z gs Fz st a w) {s f : Nat} {v : Value} {pd d : D} (hv : VV w Fz (ptrOk Z gs) (slcOk gs) v pd) (h : fieldAddrEff T st s f pd = some d) :
    ∃ u, (Instr.fieldAt s v f).run P w = .ok u w ∧ VV w Fz (ptrOk Z gs) (slcOk gs) u d := by
  cases pd with
  | ptr r p =>
    obtain ⟨x, g, o, hx, hat, hsome, rfl⟩ := hv.ptr_inv
    simp only [fieldAddrEff, Option.bind_eq_some_iff] at h
    obtain ⟨root, h1, d', h2, h3⟩ := h
    obtain ⟨x', m', h4, rfl, h5, rfl, h6⟩ := hi.part h1 h2
    rw [hx] at h4
    obtain rfl := Option.some.inj h4
    cases hm : M.data m' <;> simp only [hm] at h3 <;> try (cases h3; done)
    rename_i xs
    split at h3
    · rename_i hc
      obtain rfl := Option.some.inj h3
      obtain ⟨fs, fl, i, k1, k2, k3, k4, k5⟩ := hT.off _ _ _ hc.2
      refine ⟨.pointer (some ((⟨g, o, none⟩ : Addr).add fl.offset)), by simp [Instr.fieldAt, run_underlying k1, k2, Instr.sureAddr, fieldPlace_run k4 k5], ?_⟩
      cases m' with
      | leaf v0 d0 => simp only [M.Ok] at h6; simp only [M.data] at hm; rw [hm] at h6; simp [isAgg] at h6
      | lst => simp [M.data] at hm
      | agg ys =>
        simp only [M.data, D.agg.injEq] at hm
        subst hm
        simp only [M.Ok] at h6
        have hf : f < ys.length := by rw [← M.dataL_length ys]; exact hc.1
        have hy : ys[f]? = some ys[f] := List.getElem?_eq_getElem hf
        simp only [VV, VC]
        refine ⟨_, rfl, x, g, o + (M.cellsL (ys.take f)).length, hx, ?_, ?_, ?_⟩
        · rw [G.at_append h5 hat]; simp [M.at_, hy, M.at_nil]
        · rw [M.get_append, h5]; simp [M.get, hy, M.get_nil]
        · rw [k3, M.dataL_take, ← M.lenL (h6.take f)]
          congr 2
          unfold Addr.add
          split <;> simp_all
    · cases h3
  | pto y =>
    cases y <;> simp only [fieldAddrEff] at h <;> try (cases h; done)
    rename_i xs
    split at h
    · rename_i hc
      simp only [Option.map_eq_some_iff] at h
      obtain ⟨d', h1, rfl⟩ := h
      obtain ⟨fs, fl, i, k1, k2, k3, k4, k5⟩ := hT.off _ _ _ hc
      obtain ⟨ad, c, e1, hz, h2, h3⟩ := hv.pto_inv
      simp only [FRep] at h3
      subst e1
      refine ⟨.pointer (some (ad.add fl.offset)), by simp [Instr.fieldAt, run_underlying k1, k2, Instr.sureAddr, fieldPlace_run k4 k5], ?_⟩
      obtain ⟨c1, c2, c3, rfl, h4, h5⟩ := frepL_split h3 h1
      simp only [VV, VC]
      exact ⟨_, c2, rfl, by rw [add_block]; exact hz, by rw [k3, ← h4]; exact h2.mid, h5⟩
    · cases h
  | _ => simp [fieldAddrEff] at h

theorem getElem?_of_data {xs : List M} {i : Nat} (hi : i < xs.length) : xs[i]? = some xs[i] := List.getElem?_eq_getElem hi

theorem elem_size (hT : TbOk P T) {t e : Nat} (h : elemOf? (T.ty t) = some e) : ∃ te i, P.underlying t = some (.slice te) ∧ P.info? te = some i ∧ i.size = e := by
  cases ht : T.ty t <;> rw [ht] at h <;> simp [elemOf?] at h
  subst h
  obtain ⟨h1, i, z, h2, h3, h4, h5, h6, h7, _⟩ := hT.slice _ _ _ _ ht
  exact ⟨_, i, h1, h2, h3⟩

theorem run_indexAt {t te : Nat} {i : TypeInfo} {ad : Addr} {len c : Nat} {k : IntKind} {n : Int} (h1 : P.underlying t = some (.slice te)) (h2 : P.info? te = some i) (h0 : 0 ≤ n) (hl : n < len) :
    (Instr.indexAt t (.slice (some ad) len c) (.int k n)).run P w = .ok (.pointer (some (ad.add (n.toNat * i.size)))) w := by
  simp [Instr.indexAt, asIntOf, run_underlying h1, sizeOf, typeInfo, h2, h0, hl]

theorem slcVal_own {m : M} {off len : Nat} {v : Value} {g tg te e : Nat} {xs : List M} {rest : List Value} {fr : Nat × Nat} (h : SlcVal m off len v) (hm : m = .lst g tg te e xs rest fr) :
    ∃ a' c, v = .slice a' len c ∧ off + len ≤ xs.length ∧ off + c = xs.length + rest.length / e ∧ ((0 < c ∨ off = 0) → a' = some ⟨g, off * e, none⟩) := by
  subst hm
  obtain ⟨own, te', e', ys, ad, n, cap, a', c, h1, h2, rfl, h4, h5, h6⟩ := h
  simp only [M.data, D.lst.injEq] at h1
  simp only [M.cells, List.cons.injEq, Value.slice.injEq, and_true] at h2
  obtain ⟨_, _, rfl, _⟩ := h1
  obtain ⟨rfl, rfl, rfl⟩ := h2
  exact ⟨a', c, rfl, h5, h4, fun hc => by rw [h6 hc]; simp [lit_add]⟩

/-- What a row of the frame's holds, whether its own or not. -/
theorem row_cases {m : M} {own : Bool} {te e : Nat} {xs : List D} (hd : M.data m = .lst own te e xs) (hok : M.Ok w Fz m) :
    (own = true ∧ ∃ g te' ys rest fr, m = .lst g te te' e ys rest fr ∧ xs = M.dataL ys) ∨ (own = true ∧ xs = [] ∧ m = .leaf (.slice none 0 0) (.lst true te e [])) ∨
    (own = false ∧ ∃ ad cap, m = .leaf (.slice ad xs.length cap) (.lst false te e xs) ∧ xs.length ≤ cap ∧ FItems w Fz ad e 0 xs) := by
  cases m with
  | agg ys => simp [M.data] at hd
  | lst g tg te' e' ys rest fr =>
    simp only [M.data, D.lst.injEq] at hd
    obtain ⟨rfl, rfl, rfl, rfl⟩ := hd
    exact .inl ⟨rfl, g, te', ys, rest, fr, rfl, rfl⟩
  | leaf v d =>
    simp only [M.data] at hd
    subst hd
    simp only [M.Ok] at hok
    have hf := hok.1
    cases own with
    | true =>
      simp only [FRep] at hf
      obtain ⟨rfl, h2⟩ := hf
      simp only [List.cons.injEq, and_true] at h2
      subst h2
      exact .inr (.inl ⟨rfl, rfl, rfl⟩)
    | false =>
      simp only [FRep] at hf
      obtain ⟨ad, cap, h2, h3, h4⟩ := hf
      simp only [List.cons.injEq, and_true] at h2
      subst h2
      exact .inr (.inr ⟨rfl, ad, cap, rfl, h3, h4⟩)

theorem indexAddr_ok (hT : TbOk P T) (hi : Inv Z gs Fz st a w) {t : Nat} {v iv : Value} {ad id d : D} (hv : VV w Fz (ptrOk Z gs) (slcOk gs) v ad) (hiv : VV w Fz (ptrOk Z gs) (slcOk gs) iv id) (h : indexEff T t st ad id = some d) :
    ∃ u, (Instr.indexAt t v iv).run P w = .ok u w ∧ VV w Fz (ptrOk Z gs) (slcOk gs) u d := by
  cases id with
  | int k n =>
    obtain rfl := hiv.int_inv
    cases ad with
    | slc r p off len =>
      simp only [indexEff] at h
      split at h
      · rename_i hn
        simp only [Option.bind_eq_some_iff] at h
        obtain ⟨q, h1, h2⟩ := h
        split at h2
        · rename_i hc
          simp only [St.row, Option.bind_eq_some_iff] at h1
          obtain ⟨root, h3, d0, h4, h5⟩ := h1
          obtain ⟨x, m', hx, rfl, hg, rfl, hok⟩ := hi.part h3 h4
          obtain ⟨x2, m2, hx2, hg2, hs⟩ := hv.slc_inv
          rw [hx] at hx2
          obtain rfl := Option.some.inj hx2
          rw [hg] at hg2
          obtain rfl := Option.some.inj hg2
          obtain ⟨tE, i, k1, k2, k3⟩ := elem_size hT hc.2
          cases hm : M.data m' <;> simp only [hm] at h5 <;> try (cases h5; done)
          rename_i own te e xs
          obtain rfl := Option.some.inj h5
          simp only at hc h2 k3
          rcases row_cases hm hok with ⟨rfl, g, te', ys, rest, fr, rfl, rfl⟩ | ⟨rfl, rfl, rfl⟩ | ⟨rfl, adr, cap, rfl, h7, h8⟩
          · obtain ⟨a', c, rfl, e1, e2, e3⟩ := slcVal_own hs rfl
            simp only [if_true, Option.some.injEq] at h2
            subst h2
            have hlc : 0 < c := by
              rcases Nat.eq_zero_or_pos c with h0 | h0
              · exfalso; have := hc.1; have hd := Nat.zero_le (rest.length / e); omega
              · exact h0
            rw [e3 (.inl hlc)]
            refine ⟨_, run_indexAt k1 k2 hn.1 hn.2, ?_⟩
            have hj : off + n.toNat < ys.length := by omega
            simp only [VV, VC]
            refine ⟨_, rfl, x, g, (off + n.toNat) * e, hx, G.at_elm hg (getElem?_of_data hj), ?_, ?_⟩
            · rw [M.get_append, hg]; simp [M.get, getElem?_of_data hj, M.get_nil]
            · congr 2
              rw [k3, show (⟨g, off * e, none⟩ : Addr).add (n.toNat * e) = ⟨g, off * e + n.toNat * e, none⟩ by unfold Addr.add; split <;> simp_all, ← Nat.add_mul]
          · exfalso; have := hc.1; simp at this; omega
          · simp only [Bool.false_eq_true, if_false, Option.map_eq_some_iff] at h2
            obtain ⟨y, h2, rfl⟩ := h2
            obtain ⟨own2, te2, e2, ys2, ad2, n2, cap2, a', c, j1, j2, rfl, j4, j5, j6⟩ := hs
            simp only [M.data, D.lst.injEq] at j1
            simp only [M.cells, List.cons.injEq, Value.slice.injEq, and_true] at j2
            obtain ⟨_, _, rfl, rfl⟩ := j1
            obtain ⟨rfl, rfl, rfl⟩ := j2
            obtain ⟨adx, cs, f1, f2, f3, f4, f5⟩ := h8.get (off + n.toNat) y h2
            have hlc : 0 < c := by omega
            rw [j6 (.inl hlc), f1]
            refine ⟨_, run_indexAt k1 k2 hn.1 hn.2, ?_⟩
            simp only [VV, VC]
            refine ⟨_, cs, rfl, .inl (by rw [add_block, add_block]; exact f2), ?_, f5⟩
            rw [add_add, k3]
            rwa [show off * e + n.toNat * e = (0 + (off + n.toNat)) * e by rw [← Nat.add_mul]; congr 1; omega]
        · cases h2
      · cases h
    | lst own te e xs =>
      cases own with
      | true => simp [indexEff] at h
      | false =>
        simp only [indexEff] at h
        split at h
        · rename_i hn
          simp only [Option.map_eq_some_iff] at h
          obtain ⟨y, h2, rfl⟩ := h
          have hf := hv.frep_inv (.inl ⟨_, _, _, _, rfl⟩)
          simp only [FRep] at hf
          obtain ⟨adr, cap, e1, e2, e3⟩ := hf
          simp only [List.cons.injEq, and_true] at e1
          subst e1
          obtain ⟨tE, i, k1, k2, k3⟩ := elem_size hT hn.2
          obtain ⟨adx, cs, f1, f2, f3, f4, f5⟩ := e3.get n.toNat y h2
          have hj := lt_of_get? h2
          rw [f1]
          refine ⟨_, run_indexAt k1 k2 hn.1 (by omega), ?_⟩
          simp only [VV, VC]
          exact ⟨_, cs, rfl, .inl (by rw [add_block]; exact f2), by rw [k3]; simpa using f4, f5⟩
        · cases h
    | _ => simp [indexEff] at h
  | _ => cases ad <;> simp [indexEff] at h
end
end Go.Lft

/- The operations are sound: cuts, strings, arithmetic, comparisons. -/
namespace Go.Lft

section
variable {P : Program} {T : Tb} {Z : Zone} {gs : Rid → Option G} {Fz : Nat → Prop} {st : St} {a : Act} {w : World} {pp : PP} {ps : PS}

/-! ### Cuts -/
theorem nat_inv {v : Value} {d : D} {n : Nat} (hv : VV w Fz pp ps v d) (h : nat? d = some n) : v = .int .i64 (n : Int) := by
  cases d with
  | int k m =>
    cases k <;> simp [nat?] at h
    obtain ⟨h1, rfl⟩ := h
    rw [hv.int_inv, Int.toNat_of_nonneg h1]
  | _ => simp [nat?] at h

theorem run_sliceBound {n y : Nat} {code : BoundsCode} (h : n ≤ y) : (Instr.sliceBound (.int .i64 (n : Int)) y code).run P w = .ok n w := by
  simp [Instr.sliceBound, asIntOf, h]

theorem run_sliceBounds {isS : Bool} {len cap l h : Nat} {lo hi : Option Value} (hlo : (lo = none ∧ l = 0) ∨ lo = some (.int .i64 (l : Int))) (hhi : (hi = none ∧ h = len) ∨ hi = some (.int .i64 (h : Int))) (h1 : l ≤ h) (h2 : h ≤ cap) :
    (Instr.sliceBounds isS len cap lo hi none).run P w = .ok (l, h, cap) w := by
  rcases hlo with ⟨rfl, rfl⟩ | rfl <;> rcases hhi with ⟨rfl, rfl⟩ | rfl <;> simp [Instr.sliceBounds, run_sliceBound h1, run_sliceBound h2]

theorem lo_ok {lo : Option D} {lv : Option Value} {l : Nat} (h : loOf lo = some l) (hv : ∀ d, lo = some d → ∃ v, lv = some v ∧ VV w Fz pp ps v d) (hn : lo = none → lv = none) : (lv = none ∧ l = 0) ∨ lv = some (.int .i64 (l : Int)) := by
  cases lo with
  | none => simp only [loOf, Option.some.injEq] at h; exact .inl ⟨hn rfl, h.symm⟩
  | some d =>
    obtain ⟨v, h1, h2⟩ := hv d rfl
    simp only [loOf] at h
    exact .inr (by rw [h1, nat_inv h2 h])
theorem hi_ok {hi : Option D} {hv' : Option Value} {n h : Nat} (hh : hiOf n hi = some h) (hv : ∀ d, hi = some d → ∃ v, hv' = some v ∧ VV w Fz pp ps v d) (hn : hi = none → hv' = none) : (hv' = none ∧ h = n) ∨ hv' = some (.int .i64 (h : Int)) := by
  cases hi with
  | none => simp only [hiOf, Option.some.injEq] at hh; exact .inl ⟨hn rfl, hh.symm⟩
  | some d =>
    obtain ⟨v, h1, h2⟩ := hv d rfl
    simp only [hiOf] at hh
    exact .inr (by rw [h1, nat_inv h2 hh])

theorem ty_str (hT : TbOk P T) {t : Nat} (h : isStr (T.ty t) = true) : P.underlying t = some .string := by
  cases ht : T.ty t <;> rw [ht] at h <;> simp [isStr] at h
  exact hT.str t ht

theorem add_map_add (ad : Option Addr) (i j : Nat) : (ad.map (·.add i)).map (·.add j) = ad.map (·.add (i + j)) := by
  cases ad with
  | none => rfl
  | some x => simp [add_add]

theorem run_slice_slice {t te : Nat} {i : TypeInfo} {ad : Option Addr} {len cap l h : Nat} {lo hi : Option Value} (h1 : P.underlying t = some (.slice te)) (h2 : P.info? te = some i)
    (hb : (Instr.sliceBounds true len cap lo hi none).run P w = .ok (l, h, cap) w) :
    (Instr.sliceAt t (.slice ad len cap) lo hi none).run P w = .ok (.slice (if cap = l then ad else ad.map (·.add (l * i.size))) (h - l) (cap - l)) w := by
  simp [Instr.sliceAt, Instr.slice, run_underlying h1, hb, sizeOf, typeInfo, h2]

theorem slice_ok (hT : TbOk P T) (hi : Inv Z gs Fz st a w) {t : Nat} {v : Value} {xd d : D} {lo hi' : Option D} {lv hv' : Option Value} (hv : VV w Fz (ptrOk Z gs) (slcOk gs) v xd)
    (hlo : ∀ d, lo = some d → ∃ v, lv = some v ∧ VV w Fz (ptrOk Z gs) (slcOk gs) v d) (hlon : lo = none → lv = none) (hhi : ∀ d, hi' = some d → ∃ v, hv' = some v ∧ VV w Fz (ptrOk Z gs) (slcOk gs) v d) (hhin : hi' = none → hv' = none)
    (h : sliceEff T t st xd lo hi' = some d) : ∃ u, (Instr.sliceAt t v lv hv' none).run P w = .ok u w ∧ VV w Fz (ptrOk Z gs) (slcOk gs) u d := by
  cases xd with
  | str s =>
    simp only [sliceEff, Option.bind_eq_some_iff] at h
    obtain ⟨l, h1, m, h2, h3⟩ := h
    split at h3
    · rename_i hc
      obtain rfl := Option.some.inj h3
      obtain rfl := hv.str_inv
      have hb := run_sliceBounds (P := P) (w := w) (isS := false) (len := s.length) (cap := s.length) (lo_ok h1 hlo hlon) (hi_ok h2 hhi hhin) hc.1 hc.2.1
      have hs : (⟨s.toArray⟩ : ByteArray).size = s.length := by simp [ByteArray.size]
      refine ⟨.string ⟨((s.drop l).take (m - l)).toArray⟩, ?_, by simp [VV, VC, FRep]⟩
      simp [Instr.sliceAt, Instr.slice, run_underlying (ty_str hT hc.2.2), hs, hb, ByteArray.extract_mk]
    · cases h3
  | slc r p off len =>
    simp only [sliceEff, Option.bind_eq_some_iff] at h
    obtain ⟨q, h0, l, h1, m, h2, h3⟩ := h
    split at h3
    · rename_i hc
      obtain rfl := Option.some.inj h3
      simp only [St.row, Option.bind_eq_some_iff] at h0
      obtain ⟨root, j1, d0, j2, j3⟩ := h0
      obtain ⟨x, m', hx, rfl, hg, rfl, hok⟩ := hi.part j1 j2
      obtain ⟨x2, m2, hx2, hg2, hs⟩ := hv.slc_inv
      rw [hx] at hx2
      obtain rfl := Option.some.inj hx2
      rw [hg] at hg2
      obtain rfl := Option.some.inj hg2
      cases hm : M.data m' <;> simp only [hm] at j3 <;> try (cases j3; done)
      rename_i own te e xs
      obtain rfl := Option.some.inj j3
      simp only at hc
      obtain ⟨tE, i, k1, k2, k3⟩ := elem_size hT hc.2.2
      obtain ⟨own2, te2, e2, ys2, ad2, n2, cap2, a', c, e1, e3, rfl, e4, e5, e6⟩ := hs
      rw [hm] at e1
      simp only [D.lst.injEq] at e1
      obtain ⟨rfl, rfl, rfl, rfl⟩ := e1
      have hlc : len ≤ c := by
        have hcap : n2 ≤ cap2 := by
          rcases row_cases hm hok with ⟨_, g, te', ys, rest, fr, rfl, _⟩ | ⟨_, _, rfl⟩ | ⟨_, adr, cap, rfl, h7, h8⟩
          · simp only [M.cells, List.cons.injEq, Value.slice.injEq, and_true] at e3
            rw [← e3.2.1, ← e3.2.2]
            exact Nat.le_add_right ..
          · simp only [M.cells, List.cons.injEq, Value.slice.injEq, and_true] at e3
            omega
          · simp only [M.cells, List.cons.injEq, Value.slice.injEq, and_true] at e3
            omega
        omega
      have hb := run_sliceBounds (P := P) (w := w) (isS := true) (len := len) (cap := c) (lo_ok h1 hlo hlon) (hi_ok h2 hhi hhin) hc.1 (by omega)
      refine ⟨_, run_slice_slice k1 k2 hb, ?_⟩
      simp only [VV, VC]
      refine ⟨_, rfl, x, m', hx, hg, own, te, e, xs, ad2, n2, cap2, _, _, hm, e3, rfl, by omega, by omega, fun hz => ?_⟩
      by_cases hcl : c = l
      · rw [if_pos hcl]
        have hl0 : off + l = 0 := by rcases hz with hz | hz <;> omega
        obtain ⟨rfl, rfl⟩ : off = 0 ∧ l = 0 := by omega
        exact e6 (.inr rfl)
      · rw [if_neg hcl, e6 (by rcases hz with hz | hz <;> omega), add_map_add, k3, ← Nat.add_mul]
    · cases h3
  | lst own te e xs =>
    cases own with
    | true => simp [sliceEff] at h
    | false =>
      simp only [sliceEff, Option.bind_eq_some_iff] at h
      obtain ⟨l, h1, m, h2, h3⟩ := h
      split at h3
      · rename_i hc
        obtain rfl := Option.some.inj h3
        have hf := hv.frep_inv (.inl ⟨_, _, _, _, rfl⟩)
        simp only [FRep] at hf
        obtain ⟨adr, cap, e1, e2, e3⟩ := hf
        simp only [List.cons.injEq, and_true] at e1
        subst e1
        obtain ⟨tE, i, k1, k2, k3⟩ := elem_size hT hc.2.2
        have hb := run_sliceBounds (P := P) (w := w) (isS := true) (len := xs.length) (cap := cap) (lo_ok h1 hlo hlon) (hi_ok h2 hhi hhin) hc.1 (by omega)
        refine ⟨_, run_slice_slice k1 k2 hb, VV.of_frep (FRep.sub e3 l (m - l) (by omega) _ _ (by omega) fun hp => ?_) rfl⟩
        rw [if_neg (by omega), k3]
      · cases h3
  | _ => simp [sliceEff] at h

/-! ### A string's byte -/
theorem index_ok (hT : TbOk P T) {t : Nat} {v iv : Value} {xd id d : D} (hv : VV w Fz pp ps v xd) (hiv : VV w Fz pp ps iv id) (h : strAt T t xd id = some d) :
    ∃ u, (Instr.index t v iv).run P w = .ok u w ∧ VV w Fz pp ps u d := by
  cases xd with
  | str s =>
    cases id with
    | int k n =>
      simp only [strAt] at h
      split at h
      · rename_i hc
        simp only [Option.map_eq_some_iff] at h
        obtain ⟨b, h1, rfl⟩ := h
        obtain rfl := hv.str_inv
        obtain rfl := hiv.int_inv
        have hb : (ByteArray.mk s.toArray)[n.toNat]? = some b := by
          have hj := lt_of_get? h1
          have : n.toNat < (ByteArray.mk s.toArray).size := by simpa [ByteArray.size] using hj
          rw [getElem?_pos (ByteArray.mk s.toArray) n.toNat this]
          congr 1
          rw [List.getElem?_eq_getElem hj] at h1
          exact Option.some.inj h1
        exact ⟨.int .u8 b.toNat, by simp [Instr.index, asIntOf, run_underlying (ty_str hT hc.2), hc.1, hb], by simp [VV, VC, FRep]⟩
      · cases h
    | _ => simp [strAt] at h
  | _ => cases id <;> simp [strAt] at h

/-! ### A field of a value -/
theorem vcl_split : ∀ {xs : List D} {c : List Value} {f : Nat} {d : D}, VCL w Fz pp ps c xs → (∀ x ∈ xs, ∀ c', VC w Fz pp ps c' x → c'.length = D.size x) → xs[f]? = some d → ∃ c1 c2 c3, c = c1 ++ c2 ++ c3 ∧ c1.length = D.sizeL (xs.take f) ∧ VC w Fz pp ps c2 d
  | [], c, f, d, h, hl, hf => by simp at hf
  | x :: xs, c, 0, d, h, hl, hf => by
    simp only [VCL] at h
    obtain ⟨c1, c2, rfl, h1, h2⟩ := h
    simp only [List.getElem?_cons_zero, Option.some.injEq] at hf
    subst hf
    exact ⟨[], c1, c2, by simp, by simp [D.sizeL], h1⟩
  | x :: xs, c, f + 1, d, h, hl, hf => by
    simp only [VCL] at h
    obtain ⟨c1, c2, rfl, h1, h2⟩ := h
    simp only [List.getElem?_cons_succ] at hf
    obtain ⟨e1, e2, e3, rfl, h3, h4⟩ := vcl_split h2 (fun y hy => hl y (List.mem_cons_of_mem _ hy)) hf
    exact ⟨c1 ++ e1, e2, e3, by simp [List.append_assoc], by simp [D.sizeL, hl x (List.mem_cons_self ..) _ h1, h3], h4⟩

mutual
theorem VC.len : ∀ {d : D} {cs : List Value}, VC w Fz pp ps cs d → cs.length = D.size d
  | .ptr r p, cs, h => by simp only [VC] at h; obtain ⟨_, rfl, _⟩ := h; simp [D.size]
  | .slc r p o l, cs, h => by simp only [VC] at h; obtain ⟨_, rfl, _⟩ := h; simp [D.size]
  | .agg xs, cs, h => by simp only [VC] at h; simp only [D.size]; exact VCL.len h
  | .fn f xs, cs, h => by simp only [VC] at h; obtain ⟨_, rfl, _⟩ := h; simp [D.size]
  | .tup _, cs, h => by simp only [VC] at h
  | .int k n, cs, h => by simp only [VC] at h; exact h.len
  | .bool b, cs, h => by simp only [VC] at h; exact h.len
  | .str s, cs, h => by simp only [VC] at h; exact h.len
  | .lst o te e xs, cs, h => by simp only [VC] at h; exact h.len
  | .ifc b, cs, h => by simp only [VC] at h; exact h.len
  | .pto x, cs, h => by simp only [VC] at h; obtain ⟨a, c, rfl, _⟩ := h; simp [D.size]
  | .undef, cs, h => by simp only [VC] at h; obtain ⟨_, rfl⟩ := h; simp [D.size]
theorem VCL.len : ∀ {xs : List D} {cs : List Value}, VCL w Fz pp ps cs xs → cs.length = D.sizeL xs
  | [], cs, h => by simp only [VCL] at h; subst h; simp [D.sizeL]
  | x :: xs, cs, h => by
    simp only [VCL] at h
    obtain ⟨c1, c2, rfl, h1, h2⟩ := h
    simp only [List.length_append, D.sizeL, VC.len h1, VCL.len h2]
end

theorem run_part {t : Nat} {de : TypeDesc} {i : TypeInfo} {c1 c2 c3 : List Value} {off : Nat} (h1 : P.underlying t = some de) (h2 : P.info? t = some i) (h3 : off = c1.length) (h4 : i.size = c2.length) (h5 : descAgg de = false → c2.length = 1) :
    (part t (c1 ++ c2 ++ c3).toArray off).run P w = .ok (if descAgg de = true then .agg c2.toArray else c2.headD undef) w := by
  subst h3
  cases hd : descAgg de with
  | true =>
    have hx : (c1 ++ c2 ++ c3).toArray.extract c1.length (c1.length + c2.length) = c2.toArray := by
      apply Array.ext'
      simp [List.drop_append, List.take_append]
    unfold part Go.isAgg sizeOf typeInfo
    cases de <;> simp [descAgg] at hd <;> simp [run_underlying h1, h2, h4] <;> simpa using hx
  | false =>
    match c2, h5 hd with
    | [c], _ =>
      unfold part Go.isAgg
      cases de <;> simp [descAgg] at hd <;> simp [run_underlying h1]

theorem field_ok (hT : TbOk P T) {s f : Nat} {v : Value} {xd d : D} (hv : VV w Fz pp ps v xd) (h : fieldEff T s f xd = some d) :
    ∃ u, (Instr.field s v f).run P w = .ok u w ∧ VV w Fz pp ps u d := by
  cases xd with
  | agg xs =>
    simp only [fieldEff, Option.bind_eq_some_iff] at h
    obtain ⟨d', h1, h2⟩ := h
    split at h2
    · rename_i hc
      obtain rfl := Option.some.inj h2
      simp only [VV] at hv
      obtain ⟨cs, rfl, hv⟩ := hv
      obtain ⟨c1, c2, c3, rfl, h3, h4⟩ := vcl_split hv (fun x _ c' hc' => hc'.len) h1
      obtain ⟨fs, fl, i, k1, k2, k3, k4, k5⟩ := hT.off _ _ _ hc.1
      obtain ⟨fs', fl', i', de, l1, l2, l3, l4, l5, l6⟩ := hT.fl _ _ _ _ hc.2
      rw [k1] at l1
      simp only [Option.some.injEq, TypeDesc.struct.injEq] at l1
      subst l1
      rw [k2] at l2
      obtain rfl := Option.some.inj l2
      have hp := run_part (P := P) (w := w) (c1 := c1) (c2 := c2) (c3 := c3) (off := fl.offset) l5 l3 (by rw [k3, h3]) (by rw [l4, h4.len]) (fun hd => by rw [h4.len]; exact D.size_of_not_agg (by rw [← l6]; exact hd))
      refine ⟨_, by simpa [Instr.field, run_underlying k1, k2, asAgg] using hp, ?_⟩
      rw [l6]
      cases ha : isAgg d' with
      | true =>
        rw [if_pos rfl]
        cases d' <;> simp [isAgg] at ha
        simp only [VV]
        exact ⟨c2, rfl, by simpa only [VC] using h4⟩
      | false =>
        rw [if_neg (by simp)]
        have hl := h4.len
        rw [D.size_of_not_agg ha] at hl
        match c2, hl with
        | [c], _ => exact VV.of_VC h4 ha
    · cases h2
  | _ => simp [fieldEff] at h

/-! ### Arithmetic and comparison -/
theorem bytesLess_eq : ∀ x y : List UInt8, Op.bytesLess x y = ltB x y
  | _, [] => by simp [Op.bytesLess, ltB]
  | [], _ :: _ => by simp [Op.bytesLess, ltB]
  | a :: x, b :: y => by
    simp only [Op.bytesLess, ltB, bytesLess_eq x y]
    by_cases h : a = b <;> simp [h]

theorem str_toList (s : List UInt8) : (⟨s.toArray⟩ : ByteArray).toList = s := ByteArray.toList_mk s

theorem eqGuard_plain {op : BinOp} {t : Nat} {x y : Operand} {u v : Value} (h1 : u ≠ .nilIface) (h2 : ∀ cs, u ≠ .agg cs) : (eqGuard op t x y u v).run P w = .ok () w := by
  unfold eqGuard
  cases op <;> simp <;> cases u <;> simp_all

theorem str_append (x y : List UInt8) : (⟨x.toArray⟩ : ByteArray) ++ ⟨y.toArray⟩ = ⟨(x ++ y).toArray⟩ := by
  apply ByteArray.ext
  simp [ByteArray.data_append]

theorem run_part_one {t : Nat} {de : TypeDesc} {c1 c3 : List Value} {c : Value} {off : Nat} (h1 : P.underlying t = some de) (h3 : off = c1.length) (hd : descAgg de = false) :
    (part t (c1 ++ c :: c3).toArray off).run P w = .ok c w := by
  subst h3
  unfold part Go.isAgg
  cases de <;> simp [descAgg] at hd <;> simp [run_underlying h1]

/-- The fields of a flat struct, compared one by one. -/
theorem eqFields_ok {dep : Nat} : ∀ (fs : List Field) (i : Nat) (xs ys : List D) (cx cy px py : List Value) (b : Bool), px.length = i → py.length = i →
    (∀ j (f : Field), fs[j]? = some f → f.name ≠ "_" ∧ f.offset = i + j ∧ ((xs.map kOf)[j]? = some 0 ∧ (∃ k, P.underlying f.type = some (.int k)) ∨ (xs.map kOf)[j]? = some 1 ∧ P.underlying f.type = some .string ∨ (xs.map kOf)[j]? = some 2 ∧ P.underlying f.type = some .bool)) →
    VCL w Fz pp ps cx xs → VCL w Fz pp ps cy ys → fs.length = xs.length → D.sameL xs ys = some b →
    (Op.eqFields (dep + 1) (px ++ cx).toArray (py ++ cy).toArray fs).run P w = .ok b w
  | [], i, xs, ys, cx, cy, px, py, b, hpx, hpy, hf, hx, hy, hl, hs => by
    have : xs = [] := List.eq_nil_of_length_eq_zero (by simpa using hl.symm)
    subst this
    cases ys with
    | nil => simp [D.sameL] at hs; subst hs; simp [Op.eqFields]
    | cons => simp [D.sameL] at hs
  | f :: fs, i, xs, ys, cx, cy, px, py, b, hpx, hpy, hf, hx, hy, hl, hs => by
    cases xs with
    | nil => simp at hl
    | cons x xs =>
      cases ys with
      | nil => simp [D.sameL] at hs
      | cons y ys =>
        simp only [D.sameL, Option.bind_eq_some_iff, Option.map_eq_some_iff] at hs
        obtain ⟨bx, h1, by', h2, rfl⟩ := hs
        simp only [VCL] at hx hy
        obtain ⟨c1, c2, rfl, hx1, hx2⟩ := hx
        obtain ⟨e1, e2, rfl, hy1, hy2⟩ := hy
        obtain ⟨g1, g2, g3⟩ := hf 0 f rfl
        simp only [List.map_cons, List.getElem?_cons_zero, Option.some.injEq] at g3
        have scal : ∃ u v, c1 = [u] ∧ e1 = [v] ∧ (Op.equalIn (dep + 1) f.type u v).run P w = .ok bx w ∧ ∃ de, P.underlying f.type = some de ∧ descAgg de = false := by
          rcases g3 with ⟨g3, k, g4⟩ | ⟨g3, g4⟩ | ⟨g3, g4⟩
          · cases x <;> simp [kOf] at g3
            cases y <;> simp [D.same] at h1
            rename_i k1 a1 k2 a2
            obtain ⟨rfl, rfl⟩ := h1
            simp only [VC, FRep] at hx1 hy1
            refine ⟨_, _, hx1, hy1, ?_, _, g4, rfl⟩
            rw [run_equalIn_int w dep f.type k1 k a1 a2 g4]
            exact congrArg (fun b => Result.ok b w) (by by_cases h : a1 = a2 <;> simp [h])
          · cases x <;> simp [kOf] at g3
            cases y <;> simp [D.same] at h1
            rename_i a1 a2
            subst h1
            simp only [VC, FRep] at hx1 hy1
            refine ⟨_, _, hx1, hy1, ?_, _, g4, rfl⟩
            rw [run_equalIn_string w dep f.type _ _ g4, str_toList, str_toList]
            try (congr 1; by_cases h : a1 = a2 <;> simp [h])
          · cases x <;> simp [kOf] at g3
            cases y <;> simp [D.same] at h1
            rename_i a1 a2
            subst h1
            simp only [VC, FRep] at hx1 hy1
            refine ⟨_, _, hx1, hy1, ?_, _, g4, rfl⟩
            rw [run_equalIn_bool' w dep f.type a1 a2 g4]
            exact congrArg (fun b => Result.ok b w) (by by_cases h : a1 = a2 <;> simp [h])
        obtain ⟨u, v, rfl, rfl, r1, de, r2, r3⟩ := scal
        have p1 := run_part_one (P := P) (w := w) (c1 := px) (c := u) (c3 := c2) (off := f.offset) r2 (by rw [g2, hpx]; omega) r3
        have p2 := run_part_one (P := P) (w := w) (c1 := py) (c := v) (c3 := e2) (off := f.offset) r2 (by rw [g2, hpy]; omega) r3
        simp only [Op.eqFields, if_pos g1, List.singleton_append, Sem.run_bind, p1, p2, Result.andThen_ok, r1]
        cases bx with
        | false => simp
        | true =>
          simp only [Bool.not_true, Bool.false_eq_true, if_false, Bool.true_and]
          have := eqFields_ok (dep := dep) fs (i + 1) xs ys c2 e2 (px ++ [u]) (py ++ [v]) by' (by simp [hpx]) (by simp [hpy]) (fun j f' hf' => by
            obtain ⟨q1, q2, q3⟩ := hf (j + 1) f' (by simpa using hf')
            exact ⟨q1, by omega, by simpa using q3⟩) hx2 hy2 (by simpa using hl) h2
          simpa using this

theorem eql_struct (hT : TbOk P T) {t n : Nat} {xs ys : List D} {cx cy : List Value} {b : Bool} (ht : T.ty t = .strct n true) (hk : xs.map kOf = T.kinds t) (hx : VCL w Fz pp ps cx xs) (hy : VCL w Fz pp ps cy ys) (hs : D.sameL xs ys = some b) :
    (Op.equalIn 10000 t (.agg cx.toArray) (.agg cy.toArray)).run P w = .ok b w ∧ P.eqGuardType P.depth t = false := by
  obtain ⟨h1, h2, h3, h4, h5⟩ := hT.flat t n ht
  refine ⟨?_, h3⟩
  rw [run_equalIn_struct w 9999 t _ _ h1 h2]
  have := eqFields_ok (P := P) (dep := 9998) (P.fieldsOf t).toList 0 xs ys cx cy [] [] b rfl rfl (fun j f hf => by
    obtain ⟨q1, q2, q3⟩ := h5 j f (by simpa using hf)
    rw [hk]
    exact ⟨q1, by omega, q3⟩) hx hy (by
      have : xs.length = (T.kinds t).length := by rw [← hk]; simp
      simp [this, h4]) hs
  simpa using this

theorem VV.ifc_inv {v : Value} {b : Bool} (h : VV w Fz pp ps v (.ifc b)) : if b = true then v = .nilIface else ∃ t x, v = .iface t x := by
  simp only [VV, VC, FRep] at h
  obtain ⟨u, h1, h2⟩ := h
  simp only [List.cons.injEq, and_true] at h1
  subst h1
  exact h2

theorem int_ok {op : BinOp} {k : IntKind} {t : Nat} {m n : Int} {d : D} (h : intBin op k m n = some d) (hs : op ≠ .shl ∧ op ≠ .shr) :
    ∃ r, (binOp op t (.int k m) (.int k n)).run P w = .ok r w ∧ VV w Fz pp ps r d := by
  cases op <;> simp only [intBin] at h <;> first
    | (exact absurd rfl hs.1)
    | (exact absurd rfl hs.2)
    | (cases h; done)
    | (obtain rfl := Option.some.inj h
       refine ⟨_, by simp [binOp, Op.intArith, Op.intBits, Op.intCmp]; rfl, ?_⟩
       simp [VV, VC, FRep] <;> (try (by_cases e : m = n <;> simp [e])))
    | (split at h
       · cases h
       · rename_i hz
         obtain rfl := Option.some.inj h
         refine ⟨_, by simp [binOp, Op.intDiv, hz]; rfl, ?_⟩
         simp [VV, VC, FRep])

theorem strBin_ok {op : BinOp} {t : Nat} {x y : List UInt8} {d : D} (h : strBin op x y = some d) :
    ∃ r, (binOp op t (.string ⟨x.toArray⟩) (.string ⟨y.toArray⟩)).run P w = .ok r w ∧ VV w Fz pp ps r d := by
  have e1 : ∀ x y : List UInt8, (x == y) = decide (x = y) := fun x y => by by_cases h : x = y <;> simp [h]
  cases op <;> simp only [strBin] at h <;> first
    | (cases h; done)
    | (obtain rfl := Option.some.inj h
       refine ⟨_, by simp only [binOp, Op.stringOp, str_toList, bytesLess_eq, e1, Sem.run_pure]; rfl, ?_⟩
       simp [VV, VC, FRep])
    | (split at h
       · rename_i hl
         obtain rfl := Option.some.inj h
         have hb : ¬ (((x.length + y.length : Nat) : Int) > IntKind.i64.max) := by
           have : IntKind.i64.max = 9223372036854775807 := rfl
           rw [this]; unfold strMax at hl; omega
         refine ⟨.string ⟨(x ++ y).toArray⟩, ?_, by simp [VV, VC, FRep]⟩
         have s1 : (⟨x.toArray⟩ : ByteArray).size = x.length := by simp [ByteArray.size]
         have s2 : (⟨y.toArray⟩ : ByteArray).size = y.length := by simp [ByteArray.size]
         simp only [binOp, Op.stringOp, s1, s2]
         rw [if_neg hb, str_append]
         rfl
       · cases h)

theorem run_equalIn_nils {t : Nat} {ms : Array (String × TypeId)} (dep : Nat) (h : P.underlying t = some (.interface ms)) : (Op.equalIn (dep + 1) t .nilIface .nilIface).run P w = .ok true w := by
  simp only [Op.equalIn, Sem.run_bind, run_underlying h, Result.andThen_ok, Sem.run_pure]
theorem run_equalIn_nil {t : Nat} {ms : Array (String × TypeId)} {tt : TypeId} {x : Value} (dep : Nat) (h : P.underlying t = some (.interface ms)) : (Op.equalIn (dep + 1) t (.iface tt x) .nilIface).run P w = .ok false w := by
  simp only [Op.equalIn, Sem.run_bind, run_underlying h, Result.andThen_ok, Sem.run_pure]
theorem eqGuard_nilConst {op : BinOp} {t : Nat} {x : Operand} {c : Value} : (eqGuard op t x (.const c) .nilIface .nilIface).run P w = .ok () w := by
  unfold eqGuard
  cases op <;> simp

theorem bin_ok (hT : TbOk P T) {op : BinOp} {t : Nat} {x y : Operand} {u v : Value} {xd yd d : D} (hu : VV w Fz pp ps u xd) (hv : VV w Fz pp ps v yd) (hyc : (∃ b, yd = .ifc b) → Region.isConst y = true) (h : binEff T op t xd yd = some d) :
    ∃ r, (do eqGuard op t x y u v; binOp op t u v : Sem Value).run P w = .ok r w ∧ VV w Fz pp ps r d := by
  have plain : ∀ r, (u ≠ .nilIface) → (∀ cs, u ≠ .agg cs) → (binOp op t u v).run P w = .ok r w → VV w Fz pp ps r d → ∃ r, (do eqGuard op t x y u v; binOp op t u v : Sem Value).run P w = .ok r w ∧ VV w Fz pp ps r d := by
    intro r g1 g2 g3 g4
    exact ⟨r, by rw [Sem.run_bind, eqGuard_plain g1 g2, Result.andThen_ok, g3], g4⟩
  cases xd with
  | int k m =>
    obtain rfl := hu.int_inv
    cases yd with
    | int k' n =>
      obtain rfl := hv.int_inv
      by_cases hsh : op = .shl ∨ op = .shr
      · rcases hsh with rfl | rfl
        · simp only [binEff] at h
          split at h
          · cases h
          · rename_i hn
            obtain rfl := Option.some.inj h
            exact plain (.int k (k.wrap (m * 2 ^ (min n.toNat k.bits)))) (by simp) (by simp) (by simp [binOp, Op.shift, hn]) (by simp [VV, VC, FRep])
        · simp only [binEff] at h
          split at h
          · cases h
          · rename_i hn
            obtain rfl := Option.some.inj h
            exact plain (.int k (m.fdiv (2 ^ (min n.toNat k.bits)))) (by simp) (by simp) (by simp [binOp, Op.shift, hn]) (by simp [VV, VC, FRep])
      · have hne : op ≠ .shl ∧ op ≠ .shr := ⟨fun e => hsh (.inl e), fun e => hsh (.inr e)⟩
        have h' : (if k = k' then intBin op k m n else none) = some d := by
          cases op <;> first | exact h | exact absurd rfl hne.1 | exact absurd rfl hne.2
        split at h'
        · rename_i hk
          subst hk
          obtain ⟨r, r1, r2⟩ := int_ok (P := P) (w := w) (Fz := Fz) (pp := pp) (ps := ps) (t := t) h' hne
          exact plain r (by simp) (by simp) r1 r2
        · cases h'
    | _ => cases op <;> simp [binEff] at h
  | str s =>
    obtain rfl := hu.str_inv
    cases yd with
    | str s' =>
      obtain rfl := hv.str_inv
      have h' : strBin op s s' = some d := by cases op <;> exact h
      obtain ⟨r, r1, r2⟩ := strBin_ok (P := P) (w := w) (Fz := Fz) (pp := pp) (ps := ps) (t := t) h'
      exact plain r (by simp) (by simp) r1 r2
    | _ => cases op <;> simp [binEff] at h
  | bool b =>
    obtain rfl := hu.bool_inv
    cases yd with
    | bool b' =>
      obtain rfl := hv.bool_inv
      cases op <;> simp only [binEff] at h <;> try (cases h; done)
      all_goals
        split at h
        · rename_i ht
          obtain rfl := Option.some.inj h
          have hb := hT.bool t ht
          refine plain _ (by simp) (by simp) (by simp [binOp, Op.equal, Op.maxDepth, run_equalIn_bool' w 9999 t b b' hb]; rfl) ?_
          simp [VV, VC, FRep] <;> (try (cases b <;> cases b' <;> rfl))
        · cases h
    | _ => cases op <;> simp [binEff] at h
  | ifc b =>
    cases yd with
    | ifc b' =>
      cases b' with
      | false => cases op <;> simp [binEff] at h
      | true =>
        have hv' := hv.ifc_inv
        rw [if_pos rfl] at hv'
        subst hv'
        have hu' := hu.ifc_inv
        have hyy := hyc ⟨true, rfl⟩
        have hyc' : ∃ c, y = .const c := by cases y <;> simp [Region.isConst] at hyy; exact ⟨_, rfl⟩
        obtain ⟨c, rfl⟩ := hyc'
        cases op <;> simp only [binEff] at h <;> try (cases h; done)
        all_goals
          split at h
          · rename_i ht
            obtain rfl := Option.some.inj h
            obtain ⟨ms, hi⟩ := hT.iface t ht
            cases b with
            | true =>
              rw [if_pos rfl] at hu'
              subst hu'
              refine ⟨_, by rw [Sem.run_bind, eqGuard_nilConst, Result.andThen_ok]; simp only [binOp, Op.equal, Op.maxDepth, Sem.run_bind, run_equalIn_nils 9999 hi, Result.andThen_ok, Sem.run_pure]; rfl, ?_⟩
              simp [VV, VC, FRep]
            | false =>
              rw [if_neg (by simp)] at hu'
              obtain ⟨tt, xx, rfl⟩ := hu'
              refine ⟨_, by rw [Sem.run_bind, eqGuard_plain (by simp) (by simp), Result.andThen_ok]; simp only [binOp, Op.equal, Op.maxDepth, Sem.run_bind, run_equalIn_nil 9999 hi, Result.andThen_ok, Sem.run_pure]; rfl, ?_⟩
              simp [VV, VC, FRep]
          · cases h
    | _ => cases op <;> simp [binEff] at h
  | agg xs =>
    cases yd with
    | agg ys =>
      simp only [VV] at hu hv
      obtain ⟨cx, rfl, hu⟩ := hu
      obtain ⟨cy, rfl, hv⟩ := hv
      cases op <;> simp only [binEff] at h <;> try (cases h; done)
      all_goals
        split at h
        · rename_i n ht
          split at h
          · rename_i hk
            simp only [Option.map_eq_some_iff] at h
            obtain ⟨b, h1, rfl⟩ := h
            obtain ⟨r1, r2⟩ := eql_struct (P := P) hT ht hk hu hv h1
            refine ⟨_, by rw [Sem.run_bind, run_eqGuard_agg w _ t x y _ _ r2, Result.andThen_ok]; first | (rw [run_eql_struct, r1, Result.andThen_ok]) | (rw [run_neq_struct, r1, Result.andThen_ok]), ?_⟩
            simp [VV, VC, FRep]
          · cases h
        · cases h
    | _ => cases op <;> simp [binEff] at h
  | _ => cases op <;> cases yd <;> simp [binEff] at h
end
end Go.Lft

/- The operations are sound: all that yield a value and change no memory. -/
namespace Go.Lft

section
variable {P : Program} {T : Tb} {Z : Zone} {gs : Rid → Option G} {Fz : Nat → Prop} {st : St} {a : Act} {w : World} {pp : PP} {ps : PS}

/-! ### The cells of a slice -/
theorem CellsAt.append {ad : Addr} {c1 c2 : List Value} (h1 : CellsAt w ad c1) (h2 : CellsAt w (ad.add c1.length) c2) : CellsAt w ad (c1 ++ c2) := by
  intro j hj
  by_cases h : j < c1.length
  · rw [h1 j h, List.getElem_append_left h]
  · rw [List.getElem_append_right (by omega)]
    have := h2 (j - c1.length) (by simp at hj; omega)
    rw [add_add, show c1.length + (j - c1.length) = j by omega] at this
    exact this

theorem FItems.all {ad : Addr} {e : Nat} : ∀ {xs : List D} {i : Nat}, FItems w Fz (some ad) e i xs → ∃ cs, CellsAt w (ad.add (i * e)) cs ∧ cs.length = xs.length * e ∧ FRepL w Fz cs xs
  | [], i, h => ⟨[], fun j hj => by simp at hj, by simp, by simp only [FRepL]⟩
  | x :: xs, i, h => by
    simp only [FItems] at h
    obtain ⟨⟨ad', c, h0, h1, h2, h3, h4⟩, h5⟩ := h
    obtain rfl := Option.some.inj h0
    obtain ⟨cs, g1, g2, g3⟩ := FItems.all h5
    refine ⟨c ++ cs, h3.append ?_, by simp [h2, g2, Nat.succ_mul, Nat.add_comm], by simp only [FRepL]; exact ⟨c, cs, rfl, h4, g3⟩⟩
    rw [add_add, h2]
    rwa [Nat.succ_mul] at g1

theorem FItems.some {ao : Option Addr} {e i : Nat} {x : D} {xs : List D} (h : FItems w Fz ao e i (x :: xs)) : ∃ ad, ao = some ad ∧ Fz ad.block := by
  simp only [FItems] at h
  obtain ⟨⟨ad, c, h0, h1, _⟩, _⟩ := h
  exact ⟨ad, h0, h1⟩

theorem M.cellsL_sub {xs : List M} {e : Nat} (hc : ∀ x ∈ xs, (M.cells x).length = e) (off len : Nat) (hl : off + len ≤ xs.length) : ∃ c1 c3, M.cellsL xs = c1 ++ M.cellsL ((xs.drop off).take len) ++ c3 ∧ c1.length = off * e := by
  refine ⟨M.cellsL (xs.take off), M.cellsL ((xs.drop off).drop len), ?_, take_mul_len hc (by omega)⟩
  rw [List.append_assoc, ← M.cellsL_append, List.take_append_drop, ← M.cellsL_append, List.take_append_drop]

/-- The cells of a part of a row of one's own. -/
theorem own_sub_lies {g te e : Nat} {xs : List M} {rest : List Value} {fr : Nat × Nat} (hin : w.heap[g]? = some (rowObj te (M.cellsL xs ++ rest) fr)) (hc : ∀ x ∈ xs, (M.cells x).length = e) (hf : frOk fr (xs.length * e + rest.length)) {off len : Nat} (hl : off + len ≤ xs.length) :
    Lies w g (off * e) (M.cellsL ((xs.drop off).take len)) := by
  obtain ⟨c1, c3, h1, h2⟩ := M.cellsL_sub hc off len hl
  refine ⟨te, fr, c1, c3 ++ rest, h2, by rw [hin, h1]; simp [List.append_assoc], ?_⟩
  have hlen := M.cellsL_len hc
  rw [h1] at hlen
  intro i hi
  exact hf i (by simp only [List.length_append] at hi hlen ⊢; omega)

theorem D.freezeL_drop_take (xs : List D) (off len : Nat) : D.freezeL ((xs.drop off).take len) = ((D.freezeL xs).drop off).take len := by
  rw [D.freezeL_map, D.freezeL_map, List.map_take, List.map_drop]
theorem M.dataL_drop_take (xs : List M) (off len : Nat) : M.dataL ((xs.drop off).take len) = ((M.dataL xs).drop off).take len := by
  rw [M.dataL_map, M.dataL_map, List.map_take, List.map_drop]
theorem M.OkL.drop_take {xs : List M} (h : M.OkL w Fz xs) (off len : Nat) : M.OkL w Fz ((xs.drop off).take len) := M.OkL_iff.2 fun x hx => M.OkL_iff.1 h x (List.mem_of_mem_drop (List.mem_of_mem_take hx))
theorem M.InL.drop_take {xs : List M} (h : M.InL w xs) (off len : Nat) : M.InL w ((xs.drop off).take len) := M.InL_iff.2 fun x hx => M.InL_iff.1 h x (List.mem_of_mem_drop (List.mem_of_mem_take hx))

/-- The cells of what a slice holds, to be read at once. -/
theorem slice_cells (hi : Inv Z gs Fz st a w) {v : Value} {d : D} {xs : List D} (hv : VV w Fz (ptrOk Z gs) (slcOk gs) v d) (h : st.items d = some xs) :
    ∃ ao cap cs e, v = .slice ao xs.length cap ∧ (0 < xs.length → ∃ ad, ao = some ad ∧ CellsAt w ad cs) ∧ cs.length = xs.length * e ∧ FRepL w (fun _ => True) cs (D.freezeL xs) := by
  cases d with
  | slc r p off len =>
    simp only [St.items, Option.bind_eq_some_iff] at h
    obtain ⟨q, h0, h1⟩ := h
    split at h1
    · rename_i hc
      obtain rfl := Option.some.inj h1
      simp only [St.row, Option.bind_eq_some_iff] at h0
      obtain ⟨root, j1, d0, j2, j3⟩ := h0
      obtain ⟨x, m', hx, rfl, hg, rfl, hok⟩ := hi.part j1 j2
      obtain ⟨x2, m2, hx2, hg2, hs⟩ := hv.slc_inv
      rw [hx] at hx2
      obtain rfl := Option.some.inj hx2
      rw [hg] at hg2
      obtain rfl := Option.some.inj hg2
      cases hm : M.data m' <;> simp only [hm] at j3 <;> try (cases j3; done)
      rename_i own te e ys
      obtain rfl := Option.some.inj j3
      simp only at hc ⊢
      have hlen : ((ys.drop off).take len).length = len := by simp; omega
      rcases row_cases hm hok with ⟨rfl, g, te', zs, rest, fr, rfl, rfl⟩ | ⟨rfl, rfl, rfl⟩ | ⟨rfl, adr, cap, rfl, h7, h8⟩
      · obtain ⟨a', c, rfl, e1, e2, e3⟩ := slcVal_own hs rfl
        simp only [M.Ok] at hok
        obtain ⟨k1, k2, k3, k4, k5, k6⟩ := hok
        have hin : M.In w (.lst g te te' e zs rest fr) := by
          obtain ⟨bx, m⟩ := x
          exact M.get_in _ (hi.ins r _ hx).2 hg
        simp only [M.In] at hin
        have hl := own_sub_lies hin.1 k3 k6 (off := off) (len := len) (by omega)
        refine ⟨a', c, M.cellsL ((zs.drop off).take len), e, by rw [hlen], fun hp => ?_, ?_, ?_⟩
        · rw [hlen] at hp
          have hlc : 0 < c := by
            rcases Nat.eq_zero_or_pos c with h0 | h0
            · exfalso; have hd := Nat.zero_le (rest.length / e); omega
            · exact h0
          exact ⟨_, e3 (.inl hlc), hl.cells⟩
        · rw [M.cellsL_len (fun y hy => k3 y (List.mem_of_mem_drop (List.mem_of_mem_take hy))), hlen, List.length_take, List.length_drop, Nat.min_eq_left (by omega)]
        · rw [← M.dataL_drop_take]
          exact M.frepL (fun _ _ => trivial) (k2.drop_take off len) (hin.2.drop_take off len) (fun _ _ => trivial)
      · obtain ⟨own2, te2, e2, ys2, ad2, n2, cap2, a', c, j1, j2, rfl, j4, j5, j6⟩ := hs
        have : len = 0 := by simp at hc; omega
        subst this
        exact ⟨a', c, [], 0, by simp, fun hp => by simp at hp, by simp, by simp [D.freezeL, FRepL]⟩
      · obtain ⟨own2, te2, e2, ys2, ad2, n2, cap2, a', c, j1, j2, rfl, j4, j5, j6⟩ := hs
        simp only [M.data, D.lst.injEq] at j1
        simp only [M.cells, List.cons.injEq, Value.slice.injEq, and_true] at j2
        obtain ⟨_, _, rfl, rfl⟩ := j1
        obtain ⟨rfl, rfl, rfl⟩ := j2
        by_cases hl0 : len = 0
        · subst hl0
          exact ⟨a', c, [], 0, by simp, fun hp => by simp at hp, by simp, by simp [D.freezeL, FRepL]⟩
        · have hsub := FRep.sub h8 off len hc (te := te) a' c (by omega) (fun hp => j6 (.inl (by omega)))
          simp only [FRep, hlen] at hsub
          obtain ⟨ao, cap', q1, q2, q3⟩ := hsub
          simp only [List.cons.injEq, Value.slice.injEq, and_true, true_and] at q1
          obtain ⟨rfl, rfl⟩ := q1
          match hz : (ys.drop off).take len, hlen with
          | [], hlen => simp at hlen; omega
          | z :: zs, hlen =>
            rw [hz] at q3
            obtain ⟨ad, rfl, _⟩ := q3.some
            obtain ⟨cs, r1, r2, r3⟩ := q3.all
            refine ⟨some ad, c, cs, e, by rw [hlen], fun _ => ⟨ad, rfl, by simpa [Addr.add] using r1⟩, by rw [r2, hlen], (FRepL.stab (fun _ _ => rfl) (fun _ _ => trivial) r3).freeze⟩
    · cases h1
  | lst own te e ys =>
    cases own with
    | true =>
      cases ys with
      | nil =>
        simp only [St.items, Option.some.injEq] at h
        subst h
        have hf := hv.frep_inv (.inl ⟨_, _, _, _, rfl⟩)
        simp only [FRep, List.cons.injEq, and_true, true_and] at hf
        subst hf
        exact ⟨none, 0, [], 0, rfl, fun hp => by simp at hp, by simp, by simp [D.freezeL, FRepL]⟩
      | cons => simp [St.items] at h
    | false =>
      simp only [St.items, Option.some.injEq] at h
      subst h
      have hf := hv.frep_inv (.inl ⟨_, _, _, _, rfl⟩)
      simp only [FRep] at hf
      obtain ⟨ao, cap, e1, e2, e3⟩ := hf
      simp only [List.cons.injEq, and_true] at e1
      subst e1
      cases ys with
      | nil => exact ⟨ao, cap, [], 0, rfl, fun hp => by simp at hp, by simp, by simp [D.freezeL, FRepL]⟩
      | cons y ys =>
        obtain ⟨ad, rfl, _⟩ := e3.some
        obtain ⟨cs, r1, r2, r3⟩ := e3.all
        exact ⟨some ad, cap, cs, e, rfl, fun _ => ⟨ad, rfl, by simpa [Addr.add] using r1⟩, r2, (FRepL.stab (fun _ _ => rfl) (fun _ _ => trivial) r3).freeze⟩
  | _ => simp [St.items] at h

/-! ### Bytes -/
theorem bytes_cells : ∀ {xs : List D} {s : List UInt8} {cs : List Value}, bytesOf xs = some s → FRepL w Fz cs (D.freezeL xs) → ∃ ns : List Int, cs = ns.map (.int .u8) ∧ s = ns.map (fun n => UInt8.ofNat n.toNat)
  | [], s, cs, h, hf => by
    simp only [bytesOf, Option.some.injEq] at h
    simp only [D.freezeL, FRepL] at hf
    exact ⟨[], hf, h.symm⟩
  | x :: xs, s, cs, h, hf => by
    cases x with
    | int k n =>
      cases k <;> simp [bytesOf] at h
      obtain ⟨l, h1, rfl⟩ := h
      simp only [D.freezeL, D.freeze, FRepL, FRep] at hf
      obtain ⟨c1, c2, rfl, rfl, h2⟩ := hf
      obtain ⟨ns, rfl, rfl⟩ := bytes_cells h1 h2
      exact ⟨n :: ns, by simp, by simp⟩
    | _ => simp [bytesOf] at h

theorem foldl_push : ∀ (ns : List Int) (r : ByteArray), ns.foldl (fun r n => r.push (UInt8.ofNat n.toNat)) r = ⟨r.data ++ (ns.map (fun n => UInt8.ofNat n.toNat)).toArray⟩
  | [], r => by simp
  | n :: ns, r => by
    simp only [List.foldl_cons, List.map_cons]
    rw [foldl_push ns]
    simp [ByteArray.push]

theorem toBytes_ok (hi : Inv Z gs Fz st a w) {src dst te e b : Nat} {v : Value} {d : D} {xs : List D} {s : List UInt8} (hT : TbOk P T) (h1 : T.ty src = .slice te e b) (h2 : T.ty dst = .str) (h3 : T.ty te = .int .u8)
    (hv : VV w Fz (ptrOk Z gs) (slcOk gs) v d) (h4 : st.items d = some xs) (h5 : bytesOf xs = some s) : (convert src dst v).run P w = .ok (.string ⟨s.toArray⟩) w := by
  obtain ⟨ao, cap, cs, e', rfl, k1, k2, k3⟩ := slice_cells hi hv h4
  obtain ⟨ns, rfl, rfl⟩ := bytes_cells h5 k3
  have hs := (hT.slice _ _ _ _ h1).1
  have hd := hT.str _ h2
  have he := hT.int _ _ h3
  have hlen : ns.length = xs.length := by
    have hl : ∀ {xs : List D} {s : List UInt8}, bytesOf xs = some s → s.length = xs.length := by
      intro xs
      induction xs with
      | nil => intro s h; simp [bytesOf] at h; subst h; rfl
      | cons x xs ih =>
        intro s h
        cases x with
        | int k n => cases k <;> simp [bytesOf] at h; obtain ⟨l, h1, rfl⟩ := h; simp [ih h1]
        | _ => simp [bytesOf] at h
    simpa using hl h5
  rw [run_convert_bytes_string w src dst te ao xs.length cap hs he hd]
  cases ao with
  | none =>
    have : xs.length = 0 := by
      rcases Nat.eq_zero_or_pos xs.length with h | h
      · exact h
      · obtain ⟨ad, h', _⟩ := k1 h; cases h'
    obtain rfl : ns = [] := List.eq_nil_of_length_eq_zero (by omega)
    simp [Conv.bytesToString]
    rfl
  | some ad =>
    have hc : CellsAt w ad (ns.map (.int .u8)) := by
      rcases Nat.eq_zero_or_pos xs.length with h | h
      · obtain rfl : ns = [] := List.eq_nil_of_length_eq_zero (by omega)
        intro j hj; simp at hj
      · obtain ⟨ad', h', hc⟩ := k1 h
        obtain rfl := Option.some.inj h'
        exact hc
    have hl := run_loadCells_at P hc
    rw [List.length_map, hlen] at hl
    rw [run_bytesToString w ad xs.length cap ns hl, foldl_push]
    simp

theorem vvs_get : ∀ {xs : List D} {vs : List Value} {i : Nat} {d : D}, VVs w Fz pp ps vs xs → xs[i]? = some d → ∃ v, vs[i]? = some v ∧ VV w Fz pp ps v d
  | [], vs, i, d, h, hx => by simp at hx
  | x :: xs, vs, 0, d, h, hx => by
    simp only [VVs] at h
    obtain ⟨v, vs', rfl, h1, h2⟩ := h
    simp only [List.getElem?_cons_zero, Option.some.injEq] at hx
    subst hx
    exact ⟨v, rfl, h1⟩
  | x :: xs, vs, i + 1, d, h, hx => by
    simp only [VVs] at h
    obtain ⟨v, vs', rfl, h1, h2⟩ := h
    simp only [List.getElem?_cons_succ] at hx ⊢
    exact vvs_get h2 hx

/-- The operands of a call, one by one. -/
theorem evL_ok (hT : TbOk P T) (hi : Inv Z gs Fz st a w) : ∀ {xs : List Operand} {tys : List Nat} {ds : List D}, evL T st tys xs = some ds → VVs w Fz (ptrOk Z gs) (slcOk gs) (xs.map a.eval) ds
  | [], tys, ds, h => by
    simp only [evL, Option.some.injEq] at h
    subst h
    simp only [VVs, List.map_nil]
  | x :: xs, tys, ds, h => by
    simp only [evL, Option.bind_eq_some_iff, Option.map_eq_some_iff] at h
    obtain ⟨y, h1, ys, h2, rfl⟩ := h
    simp only [VVs, List.map_cons]
    exact ⟨_, _, rfl, ev_ok hT hi h1, evL_ok hT hi h2⟩

theorem vcs_of_vvs : ∀ {ds : List D} {vs : List Value}, VVs w Fz pp ps vs ds → (∀ d ∈ ds, isAgg d = false ∧ ∀ xs, d ≠ .tup xs) → VCs w Fz pp ps vs ds
  | [], vs, h, _ => by simp only [VVs] at h; simp only [VCs]; exact h
  | d :: ds, vs, h, hs => by
    simp only [VVs] at h
    obtain ⟨v, vs', rfl, h1, h2⟩ := h
    simp only [VCs]
    have := hs d (List.mem_cons_self ..)
    exact ⟨v, vs', rfl, VC.of_VV h1 this.1 this.2, vcs_of_vvs h2 fun d hd => hs d (List.mem_cons_of_mem _ hd)⟩

theorem vcl_put : ∀ {xs : List D} {c : List Value} {f : Nat} {d : D}, VCL w Fz pp ps c xs → xs[f]? = some d → ∃ c1 c2 c3, c = c1 ++ c2 ++ c3 ∧ c1.length = D.sizeL (xs.take f) ∧ VC w Fz pp ps c2 d ∧
    ∀ c2' d', VC w Fz pp ps c2' d' → VCL w Fz pp ps (c1 ++ c2' ++ c3) (xs.set f d')
  | [], c, f, d, h, hf => by simp at hf
  | x :: xs, c, 0, d, h, hf => by
    simp only [VCL] at h
    obtain ⟨c1, c2, rfl, h1, h2⟩ := h
    simp only [List.getElem?_cons_zero, Option.some.injEq] at hf
    subst hf
    refine ⟨[], c1, c2, by simp, by simp [D.sizeL], h1, fun c2' d' h' => ?_⟩
    simp only [List.set_cons_zero, VCL, List.nil_append]
    exact ⟨_, _, rfl, h', h2⟩
  | x :: xs, c, f + 1, d, h, hf => by
    simp only [VCL] at h
    obtain ⟨c1, c2, rfl, h1, h2⟩ := h
    simp only [List.getElem?_cons_succ] at hf
    obtain ⟨e1, e2, e3, rfl, h3, h4, h5⟩ := vcl_put h2 hf
    refine ⟨c1 ++ e1, e2, e3, by simp [List.append_assoc], by simp [D.sizeL, h1.len, h3], h4, fun c2' d' h' => ?_⟩
    simp only [List.set_cons_succ, VCL]
    exact ⟨c1, e1 ++ c2' ++ e3, by simp [List.append_assoc], h1, h5 c2' d' h'⟩

/-- A value's cells. -/
theorem VV.cells {gs : Rid → Option G} {v : Value} {d : D} (h : VV w Fz (ptrOk Z gs) (slcOk gs) v d) (hp : isPlain d = true) : VC w Fz (ptrOk Z gs) (slcOk gs) v.cells.toList d := by
  cases d with
  | agg xs => simp only [VV] at h; obtain ⟨cs, rfl, h⟩ := h; simpa only [VC, Value.cells] using h
  | tup _ => simp [isPlain] at hp
  | undef => simp [isPlain] at hp
  | ptr r p => obtain ⟨x, g, o, _, _, _, rfl⟩ := h.ptr_inv; simpa only [VV, Value.cells] using h
  | slc r p off len => obtain ⟨x, m, _, _, own, te, e, xs, a, n, cap, a', c, _, _, rfl, _⟩ := h.slc_inv; simpa only [VV, Value.cells] using h
  | fn f caps => simp only [VV, VC] at h ⊢; obtain ⟨capt, h1, h2⟩ := h; simp only [List.cons.injEq, and_true] at h1; subst h1; exact ⟨capt, rfl, h2⟩
  | int k n => obtain rfl := h.int_inv; simpa only [VV, Value.cells] using h
  | bool b => obtain rfl := h.bool_inv; simpa only [VV, Value.cells] using h
  | str s => obtain rfl := h.str_inv; simpa only [VV, Value.cells] using h
  | lst o te e xs =>
    have hf := h.frep_inv (.inl ⟨_, _, _, _, rfl⟩)
    cases o
    · simp only [FRep] at hf; obtain ⟨a, cap, e1, _⟩ := hf; simp only [List.cons.injEq, and_true] at e1; subst e1; simpa only [VV, Value.cells] using h
    · simp only [FRep] at hf; obtain ⟨_, e1⟩ := hf; simp only [List.cons.injEq, and_true] at e1; subst e1; simpa only [VV, Value.cells] using h
  | ifc b =>
    have hf := h.frep_inv (.inr ⟨_, rfl⟩)
    simp only [FRep] at hf
    obtain ⟨u, e1, e2⟩ := hf
    simp only [List.cons.injEq, and_true] at e1
    subst e1
    cases b
    · simp at e2; obtain ⟨t, x, rfl⟩ := e2; simpa only [VV, Value.cells] using h
    · simp at e2; subst e2; simpa only [VV, Value.cells] using h
  | pto x =>
    obtain ⟨ad, c, e1, _⟩ := h.pto_inv
    subst e1
    simpa only [VV, Value.cells] using h

theorem evPart_ok (hT : TbOk P T) (hi : Inv Z gs Fz st a w) {old d : D} {x : Operand} (h : evPart T st old x = some d) : VV w Fz (ptrOk Z gs) (slcOk gs) (a.eval x) d := by
  cases x with
  | const v =>
    simp only [evPart] at h
    split at h
    · rename_i hc
      obtain rfl := Option.some.inj h
      unfold constAs at hc
      split at hc
      · rename_i cs
        simp only [Bool.and_eq_true] at hc
        have hf := aggIs_frep (w := w) (Fz := Fz) hc.2
        cases old <;> simp [isAgg] at hc
        simp only [VV, Act.eval]
        exact ⟨cs.toList, by simp, VCL.of_frep (by simpa only [FRep] using hf)⟩
      · exact VV.of_frep (litIs_frep (w := w) (Fz := Fz) hc).1 (litIs_frep (w := w) (Fz := Fz) hc).2
    · exact const_ok hT h
  | tmp t => exact ev_ok hT hi (hint := 0) h
  | global t => exact ev_ok hT hi (hint := 0) h
  | func t => exact ev_ok hT hi (hint := 0) h

theorem foldl_set : ∀ (vs : List Value) {off k : Nat} {L c R : List Value}, L.length = off + k → c.length = vs.length →
    (vs.zipIdx k).foldl (fun (cs : Array Value) (x : Value × Nat) => cs.setIfInBounds (off + x.2) x.1) (L ++ c ++ R).toArray = (L ++ vs ++ R).toArray
  | [], off, k, L, c, R, hL, hc => by
    obtain rfl : c = [] := List.eq_nil_of_length_eq_zero (by simpa using hc)
    simp
  | v :: vs, off, k, L, c, R, hL, hc => by
    cases c with
    | nil => simp at hc
    | cons u c =>
      simp only [List.zipIdx_cons, List.foldl_cons]
      have : (L ++ u :: c ++ R).toArray.setIfInBounds (off + k) v = ((L ++ [v]) ++ c ++ R).toArray := by
        apply Array.ext'
        simp [← hL]
      rw [this, foldl_set vs (off := off) (k := k + 1) (L := L ++ [v]) (by simp [hL]; omega) (by simpa using hc)]
      simp

theorem foldl_set_cells {v : Value} {off : Nat} {cells : Array Value} {L c R : List Value} (h : cells.toList = L ++ c ++ R) (hL : L.length = off) (hc : c.length = v.cells.size) :
    (v.cells.zipIdx.foldl (fun cs (c, j) => cs.setIfInBounds (off + j) c) cells).toList = L ++ v.cells.toList ++ R := by
  rw [← Array.foldl_toList, Array.toList_zipIdx]
  have : cells = (L ++ c ++ R).toArray := by rw [← h]
  rw [this]
  have := foldl_set v.cells.toList (off := off) (k := 0) (L := L) (c := c) (R := R) (by simpa using hL) (by simpa using hc)
  rw [show (fun (cs : Array Value) (x : Value × Nat) => cs.setIfInBounds (off + x.2) x.1) = (fun cs (c, j) => cs.setIfInBounds (off + j) c) from rfl] at this
  rw [this]

theorem mapM_get {α β : Type} {f : α → Option β} : ∀ {l : List α} {r : List β} {i : Nat} {x : α} {y : β}, l.mapM f = some r → l[i]? = some x → f x = some y → r[i]? = some y
  | [], r, i, x, y, h, hx, hy => by simp at hx
  | z :: l, r, i, x, y, h, hx, hy => by
    simp only [List.mapM_cons, Option.bind_eq_bind, Option.pure_def, Option.bind_eq_some_iff, Option.some.injEq] at h
    obtain ⟨u, h1, us, h2, rfl⟩ := h
    cases i with
    | zero =>
      simp only [List.getElem?_cons_zero, Option.some.injEq] at hx
      subst hx
      rw [h1] at hy
      simpa using hy
    | succ i =>
      simp only [List.getElem?_cons_succ] at hx ⊢
      exact mapM_get h2 hx hy

theorem fillS_ok (hT : TbOk P T) (hi : Inv Z gs Fz st a w) {t : Nat} {fs : Array Field} {places : List (Nat × Nat)} (hu : P.underlying t = some (.struct fs)) (hp : fs.toList.mapM (fun f => (P.info? f.type).map fun i => (f.offset, i.size)) = some places) :
    ∀ {l : List (Nat × Operand)} {xs ys : List D}, fillS T st t xs l = some ys → ∀ cells : Array Value, VCL w Fz (ptrOk Z gs) (slcOk gs) cells.toList xs →
      ∃ cells', Instr.fill (places.toArray[·]?) cells (l.map fun (i, x) => (i, a.eval x)) = some cells' ∧ VCL w Fz (ptrOk Z gs) (slcOk gs) cells'.toList ys
  | [], xs, ys, h, cells, hv => by
    simp only [fillS, Option.some.injEq] at h
    subst h
    exact ⟨cells, rfl, hv⟩
  | (i, x) :: l, xs, ys, h, cells, hv => by
    simp only [fillS, Option.bind_eq_some_iff] at h
    obtain ⟨old, h1, d, h2, h3⟩ := h
    split at h3
    · rename_i hc
      obtain ⟨c1, c2, c3, c4, c5⟩ := hc
      obtain ⟨fs1, fl1, i1, p1, p2, p3, p4, p5⟩ := hT.off _ _ _ c4
      obtain ⟨fs2, fl2, i2, d2, q1, q2, q3, q4, q5⟩ := hT.fl _ _ _ _ c5
      rw [hu] at p1 q1
      obtain rfl := TypeDesc.struct.inj (Option.some.inj p1)
      obtain rfl := TypeDesc.struct.inj (Option.some.inj q1)
      rw [p2] at q2
      obtain rfl := Option.some.inj q2
      rw [p4] at q3
      obtain rfl := Option.some.inj q3
      have hpl : places[i]? = some (fl1.offset, i1.size) := mapM_get hp (by simpa using p2) (by simp [p4])
      obtain ⟨e1, e2, e3, he, h4, h5, h6⟩ := vcl_put hv h1
      have hvc := (evPart_ok hT hi h2).cells c1
      have hlen := hvc.len
      have hlen2 := h5.len
      simp only [Array.length_toList] at hlen
      have hset := foldl_set_cells (v := a.eval x) he (off := fl1.offset) (by rw [h4, p3]) (by rw [hlen, hlen2, c2])
      obtain ⟨cells', r1, r2⟩ := fillS_ok hT hi hu hp h3 _ (hset ▸ h6 _ _ hvc)
      refine ⟨cells', ?_, r2⟩
      simp only [List.map_cons, Instr.fill, List.getElem?_toArray, hpl]
      rw [if_neg]
      · simpa using r1
      · have hs : cells.size = e1.length + e2.length + e3.length := by rw [← Array.length_toList, he]; simp [Nat.add_assoc]
        simp only [Bool.or_eq_true, decide_eq_true_eq, not_or, ne_eq, Decidable.not_not]
        refine ⟨by rw [hlen, q4, c2], ?_⟩
        rw [hlen, c2, ← hlen2, p3, ← h4, hs]
        omega
    · cases h3

section ops
variable (hT : TbOk P T) (hi : Inv Z gs Fz st a w) {dst : Option Nat} {ty : Nat} {pos : String} {after : Array Edge} {g : Option (Nat × Bool)} (hd : ∀ t, dst = some t → t < a.tmps.size) {e : Eff}
include hT hi hd

theorem move_ok {x : Operand} (h : plainEff T (dst.getD 0) ty st (.move x) = some e) : OpSound P Z ⟨dst, .move x, ty, pos, after, g⟩ a w (st.app dst e) := by
  simp only [plainEff, Option.map_eq_some_iff] at h
  obtain ⟨d, h1, rfl⟩ := h
  exact op_value hi hd (o := ⟨dst, .move x, ty, pos, after, g⟩) (by simp [execOp]) (ev_ok hT hi h1)
theorem assign_ok {x : Operand} (h : plainEff T (dst.getD 0) ty st (.assign x) = some e) : OpSound P Z ⟨dst, .assign x, ty, pos, after, g⟩ a w (st.app dst e) := by
  simp only [plainEff, Option.map_eq_some_iff] at h
  obtain ⟨d, h1, rfl⟩ := h
  exact op_value hi hd (o := ⟨dst, .assign x, ty, pos, after, g⟩) (by simp [execOp]) (ev_ok hT hi h1)
theorem pick_ok {c x y : Operand} (h : plainEff T (dst.getD 0) ty st (.pick c x y) = some e) : OpSound P Z ⟨dst, .pick c x y, ty, pos, after, g⟩ a w (st.app dst e) := by
  simp only [plainEff, Option.bind_eq_some_iff] at h
  obtain ⟨cd, h1, h2⟩ := h
  cases cd with
  | bool b =>
    simp only [Option.map_eq_some_iff] at h2
    obtain ⟨d, h3, rfl⟩ := h2
    have hc := (ev_ok hT hi h1).bool_inv
    refine op_value hi hd (o := ⟨dst, .pick c x y, ty, pos, after, g⟩) (v := if b = true then a.eval x else a.eval y) (by simp [execOp, hc, asBool]) ?_
    cases b
    · simp only [Bool.false_eq_true, if_false] at h3 ⊢; exact ev_ok hT hi h3
    · simp only [if_true] at h3 ⊢; exact ev_ok hT hi h3
  | _ => cases h2
theorem loadOp_ok {t : Nat} {x : Operand} (h : plainEff T (dst.getD 0) ty st (.load t x) = some e) : OpSound P Z ⟨dst, .load t x, ty, pos, after, g⟩ a w (st.app dst e) := by
  simp only [plainEff, Option.bind_eq_some_iff] at h
  obtain ⟨pd, h1, d, h2, h3⟩ := h
  split at h3
  · rename_i hf
    obtain rfl := Option.some.inj h3
    obtain ⟨u, r1, r2⟩ := load_ok hT hi (ev_ok hT hi h1) h2 hf
    exact op_value hi hd (o := ⟨dst, .load t x, ty, pos, after, g⟩) (by simp [execOp, r1]) r2
  · cases h3
theorem nilCheck_ok {x : Operand} (h : plainEff T (dst.getD 0) ty st (.nilCheck x) = some e) : OpSound P Z ⟨dst, .nilCheck x, ty, pos, after, g⟩ a w (st.app dst e) := by
  simp only [plainEff, Option.bind_eq_some_iff] at h
  obtain ⟨pd, h1, h2⟩ := h
  have hv := ev_ok hT hi h1
  cases pd with
  | ptr r p =>
    obtain rfl := Option.some.inj h2
    obtain ⟨x', g', o', _, _, _, he⟩ := hv.ptr_inv
    exact op_value hi hd (o := ⟨dst, .nilCheck x, ty, pos, after, g⟩) (v := a.eval x) (by simp [execOp, he]) hv
  | pto y =>
    obtain rfl := Option.some.inj h2
    obtain ⟨ad, c, e1, _⟩ := hv.pto_inv
    exact op_value hi hd (o := ⟨dst, .nilCheck x, ty, pos, after, g⟩) (v := a.eval x) (by simp [execOp, e1]) hv
  | _ => cases h2
theorem binOp_ok {op : BinOp} {t t' : Nat} {x y : Operand} (h : plainEff T (dst.getD 0) ty st (.binOp op t x y t') = some e) : OpSound P Z ⟨dst, .binOp op t x y t', ty, pos, after, g⟩ a w (st.app dst e) := by
  simp only [plainEff, Option.bind_eq_some_iff, Option.map_eq_some_iff] at h
  obtain ⟨xd, h1, yd, h2, d, h3, rfl⟩ := h
  split at h3
  · cases h3
  · rename_i hc
    obtain ⟨r, r1, r2⟩ := bin_ok (P := P) hT (x := x) (y := y) (ev_ok hT hi h1) (ev_ok hT hi h2) (by rintro ⟨b, rfl⟩; simpa [isIfc] using hc) h3
    exact op_value hi hd (o := ⟨dst, .binOp op t x y t', ty, pos, after, g⟩) (v := r) (by simp only [execOp]; rw [Sem.run_bind, r1]; rfl) r2
theorem unOp_ok {op : UnOp} {t : Nat} {x : Operand} (h : plainEff T (dst.getD 0) ty st (.unOp op t x) = some e) : OpSound P Z ⟨dst, .unOp op t x, ty, pos, after, g⟩ a w (st.app dst e) := by
  simp only [plainEff, Option.bind_eq_some_iff, Option.map_eq_some_iff] at h
  obtain ⟨xd, h1, d, h2, rfl⟩ := h
  have hv := ev_ok hT hi h1
  cases op <;> cases xd <;> simp [unEff] at h2
  · rename_i k n
    subst h2
    have := hv.int_inv
    exact op_value hi hd (o := ⟨dst, .unOp .neg t x, ty, pos, after, g⟩) (v := .int k (k.wrap (-n))) (by simp [execOp, this, Op.unary, Op.intArith]) (by simp [VV, VC, FRep])
  · rename_i b
    subst h2
    have := hv.bool_inv
    exact op_value hi hd (o := ⟨dst, .unOp .not t x, ty, pos, after, g⟩) (v := .bool (!b)) (by simp [execOp, this, Op.unary]) (by simp [VV, VC, FRep])
theorem fieldAddrOp_ok {s f : Nat} {x : Operand} (h : plainEff T (dst.getD 0) ty st (.fieldAddr s x f) = some e) : OpSound P Z ⟨dst, .fieldAddr s x f, ty, pos, after, g⟩ a w (st.app dst e) := by
  simp only [plainEff, Option.bind_eq_some_iff, Option.map_eq_some_iff] at h
  obtain ⟨xd, h1, d, h2, rfl⟩ := h
  obtain ⟨u, r1, r2⟩ := fieldAddr_ok hT hi (ev_ok hT hi h1) h2
  exact op_value hi hd (o := ⟨dst, .fieldAddr s x f, ty, pos, after, g⟩) (by simp [execOp, r1]) r2
theorem fieldOp_ok {s f : Nat} {x : Operand} (h : plainEff T (dst.getD 0) ty st (.field s x f) = some e) : OpSound P Z ⟨dst, .field s x f, ty, pos, after, g⟩ a w (st.app dst e) := by
  simp only [plainEff, Option.bind_eq_some_iff, Option.map_eq_some_iff] at h
  obtain ⟨xd, h1, d, h2, rfl⟩ := h
  obtain ⟨u, r1, r2⟩ := field_ok (P := P) hT (ev_ok hT hi h1) h2
  exact op_value hi hd (o := ⟨dst, .field s x f, ty, pos, after, g⟩) (by simp [execOp, r1]) r2
theorem indexAddrOp_ok {t : Nat} {x i : Operand} (h : plainEff T (dst.getD 0) ty st (.indexAddr t x i) = some e) : OpSound P Z ⟨dst, .indexAddr t x i, ty, pos, after, g⟩ a w (st.app dst e) := by
  simp only [plainEff, Option.bind_eq_some_iff, Option.map_eq_some_iff] at h
  obtain ⟨xd, h1, id, h2, d, h3, rfl⟩ := h
  obtain ⟨u, r1, r2⟩ := indexAddr_ok hT hi (ev_ok hT hi h1) (ev_ok hT hi h2) h3
  exact op_value hi hd (o := ⟨dst, .indexAddr t x i, ty, pos, after, g⟩) (by simp [execOp, r1]) r2
theorem indexOp_ok {t : Nat} {x i : Operand} (h : plainEff T (dst.getD 0) ty st (.index t x i) = some e) : OpSound P Z ⟨dst, .index t x i, ty, pos, after, g⟩ a w (st.app dst e) := by
  simp only [plainEff, Option.bind_eq_some_iff, Option.map_eq_some_iff] at h
  obtain ⟨xd, h1, id, h2, d, h3, rfl⟩ := h
  obtain ⟨u, r1, r2⟩ := index_ok (P := P) hT (ev_ok hT hi h1) (ev_ok hT hi h2) h3
  exact op_value hi hd (o := ⟨dst, .index t x i, ty, pos, after, g⟩) (by simp [execOp, r1]) r2
theorem evO_ok {x : Option Operand} {d : Option D} (h : evO T st ty x = some d) : (∀ y, d = some y → ∃ v, x.map a.eval = some v ∧ VV w Fz (ptrOk Z gs) (slcOk gs) v y) ∧ (d = none → x.map a.eval = none) := by
  cases x with
  | none => simp only [evO, Option.some.injEq] at h; subst h; exact ⟨fun y hy => (by cases hy), fun _ => rfl⟩
  | some x =>
    simp only [evO, Option.map_eq_some_iff] at h
    obtain ⟨y, h1, rfl⟩ := h
    exact ⟨fun z hz => (by obtain rfl := Option.some.inj hz; exact ⟨_, rfl, ev_ok hT hi h1⟩), fun hn => (by cases hn)⟩
theorem sliceOp_ok {t : Nat} {x : Operand} {lo hi' mx : Option Operand} (h : plainEff T (dst.getD 0) ty st (.slice t x lo hi' mx) = some e) : OpSound P Z ⟨dst, .slice t x lo hi' mx, ty, pos, after, g⟩ a w (st.app dst e) := by
  cases mx with
  | some m => simp [plainEff] at h
  | none =>
    simp only [plainEff, Option.bind_eq_some_iff, Option.map_eq_some_iff] at h
    obtain ⟨xd, h1, ld, h2, hd', h3, d, h4, rfl⟩ := h
    obtain ⟨a1, a2⟩ := evO_ok hT hi hd h2
    obtain ⟨b1, b2⟩ := evO_ok hT hi hd h3
    obtain ⟨u, r1, r2⟩ := slice_ok hT hi (ev_ok hT hi h1) a1 a2 b1 b2 h4
    exact op_value hi hd (o := ⟨dst, .slice t x lo hi' none, ty, pos, after, g⟩) (by simp [execOp, r1]) r2
theorem extract_ok {i : Nat} {x : Operand} (h : plainEff T (dst.getD 0) ty st (.extract x i) = some e) : OpSound P Z ⟨dst, .extract x i, ty, pos, after, g⟩ a w (st.app dst e) := by
  simp only [plainEff, Option.bind_eq_some_iff] at h
  obtain ⟨xd, h1, h2⟩ := h
  cases xd with
  | tup xs =>
    simp only [Option.map_eq_some_iff] at h2
    obtain ⟨d, h3, rfl⟩ := h2
    have hv := ev_ok hT hi h1
    simp only [VV] at hv
    obtain ⟨vs, h4, h5⟩ := hv
    obtain ⟨v, h6, h7⟩ := vvs_get h5 h3
    exact op_value hi hd (o := ⟨dst, .extract x i, ty, pos, after, g⟩) (v := v) (by simp [execOp, h4, Instr.extract, h6]) h7
  | _ => cases h2
theorem makeFunc_ok {f : Fn} {first captured : Array Operand} (h : plainEff T (dst.getD 0) ty st (.makeFunc f first captured) = some e) : OpSound P Z ⟨dst, .makeFunc f first captured, ty, pos, after, g⟩ a w (st.app dst e) := by
  cases f <;> simp only [plainEff] at h <;> try (cases h; done)
  rename_i f
  split at h
  · rename_i hf
    simp only [Option.bind_eq_some_iff] at h
    obtain ⟨xs, h1, h2⟩ := h
    split at h2
    · rename_i hp
      obtain rfl := Option.some.inj h2
      have hf' : first = #[] := by simpa [Array.isEmpty] using hf
      subst hf'
      refine op_value hi hd (o := ⟨dst, .makeFunc (.func f) #[] captured, ty, pos, after, g⟩) (v := .func (.func f) #[] (captured.map a.eval)) (by simp [execOp, Instr.makeFunc]) ?_
      simp only [VV, VC]
      refine ⟨(captured.map a.eval).toList, by rw [Array.toArray_toList], vcs_of_vvs (by simpa using evL_ok hT hi h1) fun d hd => ?_⟩
      have := List.all_eq_true.1 hp d hd
      cases d <;> simp [isPtr, isAgg] at this ⊢
    · cases h2
  · cases h
theorem build_ok {t : Nat} {parts : Array (Nat × Operand)} (h : plainEff T (dst.getD 0) ty st (.build t parts) = some e) : OpSound P Z ⟨dst, .build t parts, ty, pos, after, g⟩ a w (st.app dst e) := by
  simp only [plainEff, Option.bind_eq_some_iff, Option.map_eq_some_iff] at h
  obtain ⟨z, h1, xs, h2, ys, h3, rfl⟩ := h
  cases z <;> simp [D.items] at h2
  subst h2
  rename_i xs
  obtain ⟨i, zv, k1, k2, k3, k4, k5⟩ := hT.zero _ _ h1
  obtain ⟨fs, k6, k7⟩ := k5 rfl
  obtain ⟨places, k8⟩ := Option.isSome_iff_exists.1 k7
  have hv : VCL w Fz (ptrOk Z gs) (slcOk gs) zv.cells.toList xs := VCL.of_frep (aggIsL_frep (by simpa only [D.leaves] using k3))
  obtain ⟨cells, r1, r2⟩ := fillS_ok hT hi (t := t) k6 k8 h3 zv.cells hv
  have hb : P.built t (parts.map fun (i, x) => (i, a.eval x)).toList = some cells := by
    unfold Program.built
    simp only [k1, k6, k2, k8]
    rw [Array.toList_map]
    simpa using r1
  refine op_value hi hd (o := ⟨dst, .build t parts, ty, pos, after, g⟩) (v := .agg cells) (by simp [execOp, run_build w t _ _ hb]) ?_
  simp only [VV]
  exact ⟨cells.toList, by simp, r2⟩
end ops
end
end Go.Lft

/- Parts of one's own memory are put in place: what stands of the other places. -/
namespace Go.Lft

/-- Whether q lies behind p, and is not p. -/
def behind : List Stp → List Stp → Bool
  | [], [] => false
  | [], _ :: _ => true
  | _ :: _, [] => false
  | a :: p, b :: q => decide (a = b) && behind p q

theorem behind_kill : ∀ {p q : List Stp}, behind p q = true → meets p q = true ∧ q.length ≠ p.length
  | [], [], h => by simp [behind] at h
  | [], b :: q, h => ⟨rfl, by simp⟩
  | a :: p, [], h => by simp [behind] at h
  | a :: p, b :: q, h => by
    simp only [behind, Bool.and_eq_true, decide_eq_true_eq] at h
    obtain ⟨rfl, h⟩ := h
    obtain ⟨h1, h2⟩ := behind_kill h
    refine ⟨?_, by simpa using h2⟩
    cases a <;> simp [meets, h1]

theorem behind_append : ∀ {p q : List Stp}, behind p q = true → ∃ s q', q = p ++ s :: q'
  | [], [], h => by simp [behind] at h
  | [], b :: q, h => ⟨b, q, rfl⟩
  | a :: p, [], h => by simp [behind] at h
  | a :: p, b :: q, h => by
    simp only [behind, Bool.and_eq_true, decide_eq_true_eq] at h
    obtain ⟨rfl, h⟩ := h
    obtain ⟨s, q', rfl⟩ := behind_append h
    exact ⟨s, q', rfl⟩

theorem behind_self : ∀ (p : List Stp), behind p p = false
  | [] => rfl
  | a :: p => by simp [behind, behind_self p]

theorem meets_self : ∀ (p : List Stp), meets p p = true
  | [] => rfl
  | .elm _ :: p => by simp [meets, meets_self p]
  | .fld _ :: p => by simp [meets, meets_self p]

/-- A ghost whose header is another's. -/
def HeadSame : M → M → Prop
  | .leaf v d, m => m = .leaf v d
  | .agg _, m => ∃ ys, m = .agg ys
  | .lst g tg te e xs rest fr, m => ∃ ys, m = .lst g tg te e ys rest fr ∧ ys.length = xs.length

theorem HeadSame.refl : ∀ (m : M), HeadSame m m
  | .leaf v d => rfl
  | .agg xs => ⟨xs, rfl⟩
  | .lst g tg te e xs rest fr => ⟨xs, rfl, rfl⟩

theorem HeadSame.lst {g tg te e : Nat} {xs ys : List M} {rest : List Value} {fr : Nat × Nat} (h : ys.length = xs.length) : HeadSame (.lst g tg te e xs rest fr) (.lst g tg te e ys rest fr) := ⟨ys, rfl, h⟩

theorem SlcVal.head {m m' : M} (h : HeadSame m m') {off len : Nat} {v : Value} (hs : SlcVal m off len v) : SlcVal m' off len v := by
  cases m with
  | leaf u d => simp only [HeadSame] at h; subst h; exact hs
  | agg xs =>
    obtain ⟨own, te, e, ys, a, n, cap, a', c, h1, _⟩ := hs
    simp [M.data] at h1
  | lst g tg te e xs rest fr =>
    simp only [HeadSame] at h
    obtain ⟨ys, rfl, hl⟩ := h
    obtain ⟨own, te1, e1, zs, a, n, cap, a', c, h1, h2, h3⟩ := hs
    simp only [M.data, D.lst.injEq] at h1
    obtain ⟨rfl, rfl, rfl, rfl⟩ := h1
    refine ⟨true, tg, e, M.dataL ys, a, n, cap, a', c, rfl, ?_, h3⟩
    simp only [M.cells, hl] at h2 ⊢
    exact h2

theorem M.cellsL_set_len {xs : List M} {i : Nat} {x u : M} (hx : xs[i]? = some x) (hl : (M.cells u).length = (M.cells x).length) (j : Nat) : (M.cellsL ((xs.set i u).take j)).length = (M.cellsL (xs.take j)).length := by
  induction xs generalizing i j with
  | nil => simp at hx
  | cons y ys ih =>
    cases i with
    | zero =>
      simp only [List.getElem?_cons_zero, Option.some.injEq] at hx
      subst hx
      cases j <;> simp [M.cellsL, hl]
    | succ i =>
      simp only [List.getElem?_cons_succ] at hx
      cases j with
      | zero => simp [M.cellsL]
      | succ j => simp only [List.set_cons_succ, List.take_succ_cons, M.cellsL, List.length_append, ih hx]

theorem M.cellsL_set_len' {xs : List M} {i : Nat} {x u : M} (hx : xs[i]? = some x) (hl : (M.cells u).length = (M.cells x).length) : (M.cellsL (xs.set i u)).length = (M.cellsL xs).length := by
  have := M.cellsL_set_len hx hl (xs.length)
  rwa [List.take_of_length_le (by simp), List.take_of_length_le (Nat.le_refl _)] at this

theorem M.put_len : ∀ (p : List Stp) {m x y : M}, M.get m p = some x → (M.cells y).length = (M.cells x).length → (M.cells (M.put m p y)).length = (M.cells m).length
  | [], m, x, y, h, hl => by
    rw [M.get_nil] at h
    obtain rfl := Option.some.inj h
    rw [M.put_nil]
    exact hl
  | s :: p, m, x, y, h, hl => by
    cases m with
    | leaf v d => cases s <;> simp [M.get] at h
    | agg xs =>
      cases s with
      | elm i => simp [M.get] at h
      | fld i =>
        simp only [M.get, Option.bind_eq_some_iff] at h
        obtain ⟨z, h1, h2⟩ := h
        simp only [M.put, h1, M.cells]
        exact M.cellsL_set_len' h1 (M.put_len p h2 hl)
    | lst g tg te e xs rest fr =>
      cases s with
      | fld i => simp [M.get] at h
      | elm i =>
        simp only [M.get, Option.bind_eq_some_iff] at h
        obtain ⟨z, h1, h2⟩ := h
        simp only [M.put, h1, M.cells, List.length_singleton]

theorem get?_set_self {xs : List M} {i : Nat} {x u : M} (hx : xs[i]? = some x) : (xs.set i u)[i]? = some u := by
  rw [List.getElem?_set_self (lt_of_get? hx)]

/-- What stands at another place. -/
theorem M.put_get : ∀ (p q : List Stp) {m x y z : M}, M.get m p = some x → behind p q = false → M.get m q = some z → (M.cells y).length = (M.cells x).length →
    ∃ z', M.get (M.put m p y) q = some z' ∧ (p ≠ q → HeadSame z z') ∧ (p = q → z' = y) ∧ ∀ g o, M.at_ (M.put m p y) g o q = M.at_ m g o q
  | [], [], m, x, y, z, h1, hb, h2, hl => ⟨y, by rw [M.put_nil, M.get_nil], fun h => absurd rfl h, fun _ => rfl, fun g o => by rw [M.at_nil, M.at_nil]⟩
  | [], b :: q, m, x, y, z, h1, hb, h2, hl => by simp [behind] at hb
  | s :: p, [], m, x, y, z, h1, hb, h2, hl => by
    rw [M.get_nil] at h2
    obtain rfl := Option.some.inj h2
    refine ⟨_, M.get_nil _, fun _ => ?_, fun h => (by cases h), fun g o => by rw [M.at_nil, M.at_nil]⟩
    cases m with
    | leaf v d => cases s <;> simp [M.get] at h1
    | agg xs =>
      cases s with
      | elm i => simp [M.get] at h1
      | fld i => simp only [M.get, Option.bind_eq_some_iff] at h1; obtain ⟨z, h3, _⟩ := h1; simp only [M.put, h3, HeadSame]; exact ⟨_, rfl⟩
    | lst g tg te e xs rest fr =>
      cases s with
      | fld i => simp [M.get] at h1
      | elm i => simp only [M.get, Option.bind_eq_some_iff] at h1; obtain ⟨z, h3, _⟩ := h1; simp only [M.put, h3, HeadSame]; exact ⟨_, rfl, by simp⟩
  | s :: p, t :: q, m, x, y, z, h1, hb, h2, hl => by
    cases m with
    | leaf v d => cases s <;> simp [M.get] at h1
    | agg xs =>
      cases s with
      | elm i => simp [M.get] at h1
      | fld i =>
        cases t with
        | elm j => simp [M.get] at h2
        | fld j =>
          simp only [M.get, Option.bind_eq_some_iff] at h1 h2
          obtain ⟨a, h3, h4⟩ := h1
          obtain ⟨b, h5, h6⟩ := h2
          simp only [M.put, h3, M.get, M.at_]
          by_cases hij : i = j
          · subst hij
            rw [h3] at h5
            obtain rfl := Option.some.inj h5
            obtain ⟨z', k1, k2, k3, k4⟩ := M.put_get p q h4 (by simpa [behind] using hb) h6 hl
            rw [get?_set_self h3]
            refine ⟨z', k1, fun h => k2 fun e => h (by rw [e]), fun h => k3 (by simpa using h), fun g o => ?_⟩
            simp only [Option.bind_some, k4]
            rw [M.cellsL_set_len h3 (M.put_len p h4 hl), h3]
            rfl
          · rw [List.getElem?_set_ne hij, h5]
            refine ⟨z, h6, fun _ => HeadSame.refl z, fun h => (by simp only [List.cons.injEq, Stp.fld.injEq] at h; exact absurd h.1 hij), fun g o => ?_⟩
            simp only [Option.bind_some]
            rw [M.cellsL_set_len h3 (M.put_len p h4 hl)]
    | lst g1 tg te e xs rest fr =>
      cases s with
      | fld i => simp [M.get] at h1
      | elm i =>
        cases t with
        | fld j => simp [M.get] at h2
        | elm j =>
          simp only [M.get, Option.bind_eq_some_iff] at h1 h2
          obtain ⟨a, h3, h4⟩ := h1
          obtain ⟨b, h5, h6⟩ := h2
          simp only [M.put, h3, M.get, M.at_]
          by_cases hij : i = j
          · subst hij
            rw [h3] at h5
            obtain rfl := Option.some.inj h5
            obtain ⟨z', k1, k2, k3, k4⟩ := M.put_get p q h4 (by simpa [behind] using hb) h6 hl
            rw [get?_set_self h3]
            refine ⟨z', k1, fun h => k2 fun e => h (by rw [e]), fun h => k3 (by simpa using h), fun g o => ?_⟩
            simp only [Option.bind_some, k4, h3]
          · rw [List.getElem?_set_ne hij, h5]
            exact ⟨z, h6, fun _ => HeadSame.refl z, fun h => (by simp only [List.cons.injEq, Stp.elm.injEq] at h; exact absurd h.1 hij), fun g o => rfl⟩

theorem set_get_self {α : Type} {xs : List α} {i : Nat} {x : α} (h : xs[i]? = some x) : xs.set i x = xs := by
  apply List.ext_getElem?
  intro j
  by_cases hj : i = j
  · subst hj; rw [List.getElem?_set_self (lt_of_get? h), h]
  · rw [List.getElem?_set_ne hj]

theorem M.put_self : ∀ (p : List Stp) {m x : M}, M.get m p = some x → M.put m p x = m
  | [], m, x, h => by rw [M.get_nil] at h; rw [M.put_nil]; exact (Option.some.inj h).symm
  | s :: p, m, x, h => by
    cases m with
    | leaf v d => cases s <;> simp [M.get] at h
    | agg xs =>
      cases s with
      | elm i => simp [M.get] at h
      | fld i =>
        simp only [M.get, Option.bind_eq_some_iff] at h
        obtain ⟨z, h1, h2⟩ := h
        simp only [M.put, h1, M.put_self p h2, set_get_self h1]
    | lst g1 tg te e xs rest fr =>
      cases s with
      | fld i => simp [M.get] at h
      | elm i =>
        simp only [M.get, Option.bind_eq_some_iff] at h
        obtain ⟨z, h1, h2⟩ := h
        simp only [M.put, h1, M.put_self p h2, set_get_self h1]

theorem M.put_put : ∀ (p : List Stp) {m x a b : M}, M.get m p = some x → M.put (M.put m p a) p b = M.put m p b
  | [], m, x, a, b, h => by rw [M.put_nil, M.put_nil]
  | s :: p, m, x, a, b, h => by
    cases m with
    | leaf v d => cases s <;> simp [M.get] at h
    | agg xs =>
      cases s with
      | elm i => simp [M.get] at h
      | fld i =>
        simp only [M.get, Option.bind_eq_some_iff] at h
        obtain ⟨z, h1, h2⟩ := h
        simp only [M.put, h1, get?_set_self h1, M.put_put p h2, List.set_set]
    | lst g1 tg te e xs rest fr =>
      cases s with
      | fld i => simp [M.get] at h
      | elm i =>
        simp only [M.get, Option.bind_eq_some_iff] at h
        obtain ⟨z, h1, h2⟩ := h
        simp only [M.put, h1, get?_set_self h1, M.put_put p h2, List.set_set]

theorem M.get_put : ∀ (p : List Stp) {m x y : M}, M.get m p = some x → M.get (M.put m p y) p = some y
  | [], m, x, y, h => by rw [M.put_nil, M.get_nil]
  | s :: p, m, x, y, h => by
    cases m with
    | leaf v d => cases s <;> simp [M.get] at h
    | agg xs =>
      cases s with
      | elm i => simp [M.get] at h
      | fld i =>
        simp only [M.get, Option.bind_eq_some_iff] at h
        obtain ⟨z, h1, h2⟩ := h
        simp only [M.put, h1, M.get, get?_set_self h1, Option.bind_some, M.get_put p h2]
    | lst g1 tg te e xs rest fr =>
      cases s with
      | fld i => simp [M.get] at h
      | elm i =>
        simp only [M.get, Option.bind_eq_some_iff] at h
        obtain ⟨z, h1, h2⟩ := h
        simp only [M.put, h1, M.get, get?_set_self h1, Option.bind_some, M.get_put p h2]

/-- A place that stands after the change stood before it. -/
theorem M.put_get_rev {p q : List Stp} {m x y z : M} (h1 : M.get m p = some x) (hb : behind p q = false) (h2 : M.get (M.put m p y) q = some z) (hl : (M.cells y).length = (M.cells x).length) :
    ∃ z', M.get m q = some z' ∧ (p ≠ q → HeadSame z' z) := by
  have h3 := M.get_put p (y := y) h1
  obtain ⟨z', k1, k2, k3, k4⟩ := M.put_get p q (y := x) h3 hb h2 hl.symm
  rw [M.put_put p h1, M.put_self p h1] at k1
  refine ⟨z', k1, fun h => ?_⟩
  have := k2 h
  obtain ⟨z2, e1, e2, _⟩ := M.put_get p q (y := y) h1 hb k1 hl
  rw [h2] at e1
  obtain rfl := Option.some.inj e1
  exact e2 h

theorem M.at_notin : ∀ (p : List Stp) {m x : M} {g o g' o' : Nat}, g ∉ M.ids m → (M.ids m).Nodup → M.get m p = some x → M.at_ m g o p = some (g', o') → g' ∉ M.ids x
  | [], m, x, g, o, g', o', hn, hd, h, ha => by
    rw [M.get_nil] at h
    rw [M.at_nil] at ha
    obtain rfl := Option.some.inj h
    obtain ⟨rfl, rfl⟩ := Prod.mk.inj (Option.some.inj ha)
    exact hn
  | s :: p, m, x, g, o, g', o', hn, hd, h, ha => by
    cases m with
    | leaf v d => cases s <;> simp [M.get] at h
    | agg xs =>
      cases s with
      | elm i => simp [M.get] at h
      | fld i =>
        simp only [M.get, Option.bind_eq_some_iff] at h
        obtain ⟨z, h1, h2⟩ := h
        simp only [M.at_, h1, Option.bind_some] at ha
        simp only [M.ids] at hn hd
        obtain ⟨n1, n2⟩ := M.idsL_nodup_of h1 hd
        exact M.at_notin p (fun hz => hn (M.mem_idsL.2 ⟨z, List.mem_of_getElem? h1, hz⟩)) n1 h2 ha
    | lst g1 tg te e xs rest fr =>
      cases s with
      | fld i => simp [M.get] at h
      | elm i =>
        simp only [M.get, Option.bind_eq_some_iff] at h
        obtain ⟨z, h1, h2⟩ := h
        simp only [M.at_, h1, Option.bind_some] at ha
        simp only [M.ids, List.nodup_cons] at hd
        obtain ⟨n1, n2⟩ := M.idsL_nodup_of h1 hd.2
        exact M.at_notin p (fun hz => hd.1 (M.mem_idsL.2 ⟨z, List.mem_of_getElem? h1, hz⟩)) n1 h2 ha

/-! ### Frozen ghosts -/
mutual
def M.frz : M → M
  | .leaf v d => .leaf v (D.freeze d)
  | .agg xs => .agg (M.frzL xs)
  | .lst g tg te e xs rest fr => .leaf (.slice (some ⟨g, 0, none⟩) xs.length (xs.length + rest.length / e)) (.lst false tg e (D.freezeL (M.dataL xs)))
def M.frzL : List M → List M
  | [] => []
  | x :: xs => M.frz x :: M.frzL xs
end
mutual
theorem M.frz_cells : ∀ (m : M), M.cells (M.frz m) = M.cells m
  | .leaf v d => rfl
  | .agg xs => by simp only [M.frz, M.cells, M.frzL_cells xs]
  | .lst g tg te e xs rest fr => rfl
theorem M.frzL_cells : ∀ (xs : List M), M.cellsL (M.frzL xs) = M.cellsL xs
  | [] => rfl
  | x :: xs => by simp only [M.frzL, M.cellsL, M.frz_cells x, M.frzL_cells xs]
end
mutual
theorem M.frz_data : ∀ (m : M), M.data (M.frz m) = D.freeze (M.data m)
  | .leaf v d => rfl
  | .agg xs => by simp only [M.frz, M.data, D.freeze, M.frzL_data xs]
  | .lst g tg te e xs rest fr => by simp only [M.frz, M.data, D.freeze]
theorem M.frzL_data : ∀ (xs : List M), M.dataL (M.frzL xs) = D.freezeL (M.dataL xs)
  | [] => rfl
  | x :: xs => by simp only [M.frzL, M.dataL, D.freezeL, M.frz_data x, M.frzL_data xs]
end
mutual
theorem M.frz_ids : ∀ (m : M), M.ids (M.frz m) = []
  | .leaf v d => rfl
  | .agg xs => by simp only [M.frz, M.ids, M.frzL_ids xs]
  | .lst g tg te e xs rest fr => rfl
theorem M.frzL_ids : ∀ (xs : List M), M.idsL (M.frzL xs) = []
  | [] => rfl
  | x :: xs => by simp only [M.frzL, M.idsL, M.frz_ids x, M.frzL_ids xs, List.append_nil]
end
theorem D.freeze_agg : ∀ (d : D), isAgg (D.freeze d) = isAgg d
  | .int .. => rfl
  | .bool _ => rfl
  | .str _ => rfl
  | .agg _ => by simp only [D.freeze, isAgg]
  | .lst .. => by simp only [D.freeze, isAgg]
  | .fn .. => rfl
  | .ifc _ => rfl
  | .pto _ => rfl
  | .ptr .. => rfl
  | .slc .. => rfl
  | .tup _ => rfl
  | .undef => rfl
theorem M.in_noids {w : World} {m : M} (h : M.ids m = []) : ∀ {w' : World}, M.In w m → M.In w' m := fun hin => M.In.stab (fun g hg => by rw [h] at hg; cases hg) hin
mutual
theorem M.frz_in {w : World} : ∀ (m : M), M.In w (M.frz m)
  | .leaf v d => by simp only [M.frz, M.In]
  | .agg xs => by simp only [M.frz, M.In]; exact M.frzL_in xs
  | .lst g tg te e xs rest fr => by simp only [M.frz, M.In]
theorem M.frzL_in {w : World} : ∀ (xs : List M), M.InL w (M.frzL xs)
  | [] => by simp only [M.frzL, M.InL]
  | x :: xs => by simp only [M.frzL, M.InL]; exact ⟨M.frz_in x, M.frzL_in xs⟩
end
mutual
theorem M.frz_ok {w : World} {Fz Fz' : Nat → Prop} (hf : ∀ g, Fz g → Fz' g) : ∀ {m : M}, M.Ok w Fz m → M.In w m → (∀ g ∈ M.ids m, Fz' g) → M.Ok w Fz' (M.frz m)
  | .leaf v d, hok, hin, hi => by
    have := M.frep hf hok hin hi
    simp only [M.Ok] at hok
    simp only [M.frz, M.Ok]
    exact ⟨this, by rw [D.freeze_agg]; exact hok.2⟩
  | .agg xs, hok, hin, hi => by
    simp only [M.Ok] at hok
    simp only [M.In] at hin
    simp only [M.ids] at hi
    simp only [M.frz, M.Ok]
    exact M.frzL_ok hf hok hin hi
  | .lst g tg te e xs rest fr, hok, hin, hi => by
    have := M.frep hf hok hin hi
    simp only [M.cells, M.data, D.freeze] at this
    simp only [M.frz, M.Ok]
    exact ⟨this, by simp [isAgg]⟩
theorem M.frzL_ok {w : World} {Fz Fz' : Nat → Prop} (hf : ∀ g, Fz g → Fz' g) : ∀ {xs : List M}, M.OkL w Fz xs → M.InL w xs → (∀ g ∈ M.idsL xs, Fz' g) → M.OkL w Fz' (M.frzL xs)
  | [], hok, hin, hi => by simp only [M.frzL, M.OkL]
  | x :: xs, hok, hin, hi => by
    simp only [M.OkL] at hok
    simp only [M.InL] at hin
    simp only [M.idsL, List.mem_append] at hi
    simp only [M.frzL, M.OkL]
    exact ⟨M.frz_ok hf hok.1 hin.1 (fun g hg => hi g (.inl hg)), M.frzL_ok hf hok.2 hin.2 (fun g hg => hi g (.inr hg))⟩
end
theorem M.frzL_map : ∀ (xs : List M), M.frzL xs = xs.map M.frz
  | [] => rfl
  | x :: xs => by simp only [M.frzL, List.map_cons, M.frzL_map xs]

/-- A place of the frozen is one of what was. -/
theorem M.frz_get : ∀ (p : List Stp) {m z : M}, M.get (M.frz m) p = some z → ∃ x, M.get m p = some x ∧ z = M.frz x
  | [], m, z, h => by rw [M.get_nil] at h; exact ⟨m, M.get_nil m, (Option.some.inj h).symm⟩
  | s :: p, m, z, h => by
    cases m with
    | leaf v d => cases s <;> simp [M.frz, M.get] at h
    | lst g tg te e xs rest fr => cases s <;> simp [M.frz, M.get] at h
    | agg xs =>
      cases s with
      | elm i => simp [M.frz, M.get] at h
      | fld i =>
        simp only [M.frz, M.get, Option.bind_eq_some_iff, M.frzL_map, List.getElem?_map, Option.map_eq_some_iff] at h
        obtain ⟨y, ⟨u, h1, rfl⟩, h2⟩ := h
        obtain ⟨x, h3, h4⟩ := M.frz_get p h2
        exact ⟨x, by simp [M.get, h1, h3], h4⟩

theorem SlcVal.frz {m : M} {off len : Nat} {v : Value} (hs : SlcVal m off len v) : SlcVal (M.frz m) off len v := by
  obtain ⟨own, te, e, ys, a, n, cap, a', c, h1, h2, h3⟩ := hs
  refine ⟨false, te, e, D.freezeL ys, a, n, cap, a', c, ?_, by rw [M.frz_cells, h2], h3⟩
  rw [M.frz_data, h1]
  cases own <;> simp only [D.freeze]

end Go.Lft

