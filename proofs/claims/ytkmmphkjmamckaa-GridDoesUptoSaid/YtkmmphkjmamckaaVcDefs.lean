/-
  What a function's code comes to, as a proposition: definitions alone (the symbolic state, the table of types, the walk over operations, regions and code).
-/
import Derived.Orders
import Derived.Below
import Derived.KernelRfl
namespace Go.Proofs.Ytkmmphkjmamckaa
open Go
set_option linter.all false

/-- Stands in a world for a block of which nothing may be known. -/
def hole : Obj := .deferred none

inductive SV where
  | v (x : Value)
  | lit (b : Bool)
  | lp (i off : Nat)
  | junk

structure Loc where
  ty : TypeId
  opq : Bool
  cells : List Value

inductive CK where
  | int (k : IntKind)
  | bool
  | str
  | slice
  | ptr
  | func

inductive TK where
  | cell (c : CK)
  | slice (e : TypeId)
  | ptr (e : TypeId)
  | struct (fs : List (Nat × TypeId))
  | array (n : Nat) (e : TypeId)
  | tuple (ts : List TypeId)
  | other

structure TI where
  k : TK
  size : Nat
  bytes : Nat
  zero : List Value

def TI.isAgg (t : TI) : Bool :=
  match t.k with
  | .struct _ | .array _ _ => true
  | _ => false

def TI.isTuple (t : TI) : Bool :=
  match t.k with
  | .tuple _ => true
  | _ => false

/-- A type of more cells than this is kept as one list of cells. -/
def TI.big (t : TI) : Bool := Nat.ble 13 t.size

inductive SS where
  | keep
  | junk
  | cell (c : CK)
  | agg (l : List CK)
  | opq

inductive LSS where
  | keep
  | cells (l : List CK)
  | opq

structure LShape where
  slots : List SS
  locs : List LSS

structure Ctx where
  P : Program
  T : List TI
  real : List Nat
  wraps : List Nat
  opqs : List Nat
  fns : List Nat
  loops : List (Nat × LShape)
  cuts : List (Nat × LShape)

def lookN {α : Type} : List (Nat × α) → Nat → Option α
  | [], _ => none
  | (k, a) :: r, n => if Nat.beq k n then some a else lookN r n

def memN : List Nat → Nat → Bool
  | [], _ => false
  | k :: r, n => if Nat.beq k n then true else memN r n

def memD (l : List Nat) : Option Tmp → Bool
  | some d => memN l d
  | none => false

def tiOf (T : List TI) (t : TypeId) : Option TI :=
  match T[t]? with
  | some ti =>
    match ti.k with
    | .other => none
    | _ => some ti
  | none => none

def Ctx.ti (C : Ctx) (t : TypeId) : Option TI := tiOf C.T t

def cksOf (T : List TI) : Nat → TypeId → List CK
  | 0, _ => []
  | n + 1, t =>
    match T[t]? with
    | some ti =>
      match ti.k with
      | .cell c => [c]
      | .slice _ => [.slice]
      | .ptr _ => [.ptr]
      | .struct fs => fs.flatMap fun f => cksOf T n f.2
      | .array m e => (List.replicate m (cksOf T n e)).flatten
      | _ => []
    | none => []

def exCK : CK → (Value → Prop) → Prop
  | .int k, p => ∃ n : Int, p (.int k n)
  | .bool, p => ∃ b : Bool, p (.bool b)
  | .str, p => ∃ s : ByteArray, p (.string s)
  | .slice, p => ∃ (a : Option Addr) (n c : Nat), p (.slice a n c)
  | .ptr, p => ∃ (b o : Nat), p (.pointer (some ⟨b, o, none⟩))
  | .func, p => ∃ (f : Fn) (a c : Array Value), p (.func f a c)

def exCKs : List CK → (List Value → Prop) → Prop
  | [], p => p []
  | c :: r, p => exCK c fun x => exCKs r fun l => p (x :: l)

/-- Some value of a type that is no tuple. -/
def exOne (T : List TI) (t : TypeId) (p : Value → Prop) : Prop :=
  match tiOf T t with
  | some ti =>
    match ti.k with
    | .cell c => exCK c p
    | .slice _ => exCK .slice p
    | .ptr _ => exCK .ptr p
    | .struct _ | .array _ _ => if ti.big then ∃ l : List Value, p (.agg l.toArray) else exCKs (cksOf T 6 t) fun l => p (.agg l.toArray)
    | _ => False
  | none => False

def exMany (T : List TI) : List TypeId → (List Value → Prop) → Prop
  | [], p => p []
  | t :: r, p => exOne T t fun x => exMany T r fun l => p (x :: l)

def exTy (T : List TI) (t : TypeId) (p : Value → Prop) : Prop :=
  match tiOf T t with
  | some { k := .tuple ts, .. } => exMany T ts fun l => p (.tuple l.toArray)
  | _ => exOne T t p

/-! ### Memory -/

/-- These cells lie from that place on. -/
def Rd (u : World) (b : Nat) : Nat → List Value → Prop
  | _, [] => True
  | o, c :: r => u.cell? ⟨b, o, none⟩ = some c ∧ Rd u b (o + 1) r

/-- So many cells from that place on may be written. -/
def Wr (u : World) (b : Nat) (o n : Nat) : Prop := ∀ j, j < n → (∃ c, u.cell? ⟨b, o + j, none⟩ = some c) ∧ u.frozen? ⟨b, o + j, none⟩ = false

def putCells (u : World) (b : Nat) : Nat → List Value → World
  | _, [] => u
  | o, c :: r => putCells (u.setCell ⟨b, o, none⟩ c) b (o + 1) r

/-- What a slice holds, cell by cell. -/
def Gets (u : World) (p : Option Addr) (cs : List Value) : Prop :=
  match p with
  | none => cs = []
  | some a => (cs ≠ [] → a.spot = none) ∧ Rd u a.block a.off cs

def WrS (u : World) (p : Option Addr) (off n : Nat) : Prop :=
  match p with
  | none => True
  | some a => (n ≠ 0 → a.spot = none) ∧ Wr u a.block (a.off + off) n

def putSl (u : World) (p : Option Addr) (off : Nat) (cs : List Value) : World :=
  match p with
  | none => u
  | some a => putCells u a.block (a.off + off) cs

def drewW (u : World) : World := { u with drawn := u.drawn + 1 }
def allocW (u : World) (o : Obj) : World := { u with heap := u.heap.push o }

def okCells : List Value → Prop → Prop
  | [], r => r
  | c :: cs, r =>
    match c with
    | .agg _ | .tuple _ => False
    | _ => okCells cs r

def inK : IntKind → Int → Prop
  | .i64, n => -9223372036854775808 ≤ n ∧ n ≤ 9223372036854775807
  | .u8, n => 0 ≤ n ∧ n ≤ 255
  | k, n => k.wrap n = n

/-! ### Triples -/

/-- What a world with holes says holds of that world. -/
structure Le (u w : World) : Prop where
  size : w.heap.size = u.heap.size
  tape : w.tape = u.tape
  drawn : w.drawn = u.drawn
  os : w.os = u.os
  output : w.output = u.output
  block : ∀ (k : Nat) (o : Obj), u.heap[k]? = some o → o = hole ∨ w.heap[k]? = some o

/-- What lies behind a hole stays as it is. -/
structure Kept (u w u' w' : World) : Prop where
  size : u.heap.size ≤ u'.heap.size
  hole : ∀ k : Nat, u.heap[k]? = some hole → u'.heap[k]? = some Go.Proofs.Ytkmmphkjmamckaa.hole ∧ w'.heap[k]? = w.heap[k]?

def Spec (P : Program) (f : FuncId) (args : Array Value) (u : World) (R : Ending → World → Prop) : Prop :=
  ∀ w, Le u w → Calls P f args w fun e w' => ∃ u', R e u' ∧ Le u' w' ∧ Kept u w u' w'

/-! ### Operations -/

inductive Eff where
  | pure
  | rdLoc (l : Nat)
  | rdMem (b o : Nat) (cs : List Value)
  | wrLoc (l : Nat)
  | wr

def ev (fr : List SV) : Operand → SV
  | .tmp t => fr.getD t .junk
  | .const (.bool b) => .lit b
  | .const x => .v x
  | .global g => .v (.pointer (some ⟨g, 0, none⟩))
  | .func f => .v (.func (.func f) #[] #[])

def asV : SV → Option Value
  | .v x => some x
  | .lit b => some (.bool b)
  | _ => none

def asVs (fr : List SV) : List Operand → Option (List Value)
  | [] => some []
  | x :: r =>
    match asV (ev fr x), asVs fr r with
    | some y, some l => some (y :: l)
    | _, _ => none

def putS (fr : List SV) (d : Option Tmp) (s : SV) : List SV :=
  match d with
  | some d => fr.set d s
  | none => fr

def takeN {α : Type} : List α → Nat → Nat → Option (List α)
  | _, _, 0 => some []
  | [], _, _ + 1 => none
  | x :: r, 0, n + 1 =>
    match takeN r 0 n with
    | some l => some (x :: l)
    | none => none
  | _ :: r, k + 1, n + 1 => takeN r k (n + 1)

/-- The list with others from a place on; none: they don't fit. -/
def putN {α : Type} : List α → Nat → List α → Option (List α)
  | l, _, [] => some l
  | [], _, _ :: _ => none
  | _ :: r, 0, y :: ys =>
    match putN r 0 ys with
    | some l => some (y :: l)
    | none => none
  | x :: r, k + 1, ys =>
    match putN r k ys with
    | some l => some (x :: l)
    | none => none

abbrev KO := SV → List Loc → World → Eff → Prop

def eqV : Value → Value → Bool
  | .int _ a, .int _ b => decide (a = b)
  | .bool a, .bool b => a == b
  | .string a, .string b => decide (a.data.toList = b.data.toList)
  | _, _ => false

def eqVs : List Value → List Value → Bool
  | [x], [y] => eqV x y
  | x :: xs, y :: ys => eqV x y && eqVs xs ys
  | _, _ => false

def scalar (T : List TI) (t : TypeId) : Bool :=
  match tiOf T t with
  | some { k := .cell (.int _), .. } | some { k := .cell .bool, .. } | some { k := .cell .str, .. } => true
  | _ => false

def scalars (T : List TI) : Nat → List (Nat × TypeId) → Bool
  | _, [] => true
  | i, f :: r => Nat.beq f.1 i && scalar T f.2 && scalars T (i + 1) r

def eqTy (C : Ctx) (t : TypeId) : Bool :=
  match C.ti t with
  | some { k := .struct (f :: fs), .. } => scalars C.T 0 (f :: fs)
  | _ => false

def sameKinds (T : List TI) : List (Nat × TypeId) → List Value → List Value → Bool
  | [], [], [] => true
  | f :: r, x :: xs, y :: ys =>
    (match tiOf T f.2, x, y with
     | some { k := .cell (.int _), .. }, .int k _, .int k' _ => decide (k = k')
     | some { k := .cell .bool, .. }, .bool _, .bool _ => true
     | some { k := .cell .str, .. }, .string _, .string _ => true
     | _, _, _ => false) && sameKinds T r xs ys
  | _, _, _ => false

def eqKinds (C : Ctx) (t : TypeId) (xs ys : List Value) : Bool :=
  match C.ti t with
  | some { k := .struct fs, .. } => sameKinds C.T fs xs ys
  | _ => false

def wInt (C : Ctx) (d : Option Tmp) (op : BinOp) (k : IntKind) (a b : Int) (p : Value → Prop) : Prop :=
  match op with
  | .add => if memD C.wraps d then p (.int k (k.wrap (a + b))) else inK k (a + b) ∧ p (.int k (a + b))
  | .sub => if memD C.wraps d then p (.int k (k.wrap (a - b))) else inK k (a - b) ∧ p (.int k (a - b))
  | .mul => if memD C.wraps d then p (.int k (k.wrap (a * b))) else inK k (a * b) ∧ p (.int k (a * b))
  | .quo => if memD C.wraps d then b ≠ 0 ∧ p (.int k (k.wrap (a.tdiv b))) else 0 ≤ a ∧ 0 < b ∧ inK k a ∧ p (.int k (a / b))
  | .rem => if memD C.wraps d then b ≠ 0 ∧ p (.int k (a.tmod b)) else 0 ≤ a ∧ 0 < b ∧ p (.int k (a % b))
  | .eql => p (.bool (decide (a = b)))
  | .neq => p (.bool (!decide (a = b)))
  | .lss => p (.bool (decide (a < b)))
  | .leq => p (.bool (decide (a ≤ b)))
  | .gtr => p (.bool (decide (b < a)))
  | .geq => p (.bool (decide (b ≤ a)))
  | _ => False

def wBin (C : Ctx) (d : Option Tmp) (op : BinOp) (t : TypeId) (x y : Value) (p : Value → Prop) : Prop :=
  match x, y with
  | .int k a, .int k' b => if k = k' then wInt C d op k a b p else False
  | .string a, .string b =>
    match op with
    | .add => ((a.size + b.size : Nat) : Int) ≤ 9223372036854775807 ∧ p (.string (a ++ b))
    | .eql => p (.bool (decide (a.data.toList = b.data.toList)))
    | .neq => p (.bool (!decide (a.data.toList = b.data.toList)))
    | _ => False
  | .bool a, .bool b =>
    match op, C.ti t with
    | .eql, some { k := .cell .bool, .. } => p (.bool (a == b))
    | .neq, some { k := .cell .bool, .. } => p (.bool (!(a == b)))
    | _, _ => False
  | .agg xs, .agg ys =>
    match op with
    | .eql => if eqTy C t && eqKinds C t xs.toList ys.toList then p (.bool (eqVs xs.toList ys.toList)) else False
    | .neq => if eqTy C t && eqKinds C t xs.toList ys.toList then p (.bool (!eqVs xs.toList ys.toList)) else False
    | _ => False
  | .pointer a, .pointer none =>
    match op, C.ti t with
    | .eql, some { k := .ptr _, .. } => p (.bool a.isNone)
    | .neq, some { k := .ptr _, .. } => p (.bool (!a.isNone))
    | _, _ => False
  | .slice a _ _, .slice none _ _ =>
    match op, C.ti t with
    | .eql, some { k := .slice _, .. } => p (.bool a.isNone)
    | .neq, some { k := .slice _, .. } => p (.bool (!a.isNone))
    | _, _ => False
  | _, _ => False

/-- The places and sizes of a struct's fields. -/
def fieldAtN (C : Ctx) (t : TypeId) (f : Nat) : Option (Nat × TI) :=
  match C.ti t with
  | some { k := .struct fs, .. } =>
    match fs[f]? with
    | some (off, ft) =>
      match C.ti ft with
      | some ti => if Nat.beq ti.size 0 then none else some (off, ti)
      | none => none
    | none => none
  | _ => none

def fieldTy (C : Ctx) (t : TypeId) (f : Nat) : TypeId :=
  match C.ti t with
  | some { k := .struct fs, .. } => (fs[f]?.map (·.2)).getD 0
  | _ => 0

def elemTI (C : Ctx) (t : TypeId) : Option (TypeId × TI) :=
  match C.ti t with
  | some { k := .slice e, .. } | some { k := .array _ e, .. } =>
    match C.ti e with
    | some ti =>
      match ti.k with
      | .tuple _ => none
      | _ => if Nat.beq ti.size 0 then none else some (e, ti)
    | none => none
  | _ => none

def fillN (C : Ctx) (t : TypeId) (cells : List Value) : List (Nat × Value) → Option (List Value)
  | [] => some cells
  | (i, y) :: r =>
    match (match C.ti t with
      | some { k := .struct _, .. } => fieldAtN C t i
      | some { k := .array _ _, .. } | some { k := .slice _, .. } => (elemTI C t).map fun (e : TypeId × TI) => (i * e.2.size, e.2)
      | _ => none) with
    | some (off, ti) =>
      if Nat.beq y.cells.toList.length ti.size then
        match putN cells off y.cells.toList with
        | some cells => fillN C t cells r
        | none => none
      else none
    | none => none

/-- A struct or an array whose parts' sizes are known. -/
def buildable (C : Ctx) (ti : TI) : Bool :=
  match ti.k with
  | .struct fs => fs.all fun f => (C.ti f.2).isSome
  | .array _ e => (C.ti e).isSome
  | _ => false

def partsV (fr : List SV) : List (Nat × Operand) → Option (List (Nat × Value))
  | [] => some []
  | (i, x) :: r =>
    match asV (ev fr x), partsV fr r with
    | some y, some l => some ((i, y) :: l)
    | _, _ => none

def repl (n : Nat) (z : List Value) : List Value := (List.replicate n z).flatten

def bytesV (s : ByteArray) : List Value := s.data.toList.map fun b => .int .u8 b.toNat

/-- Where an append's outcome lies: in place, or in a block of its own. -/
def AppR (u : World) (e : TypeId) (es : Nat) (z : List Value) (p : Option Addr) (n c m : Nat) (old new : List Value) (p' : Option Addr) (c' : Nat) (u' : World) : Prop :=
  (n + m ≤ c ∧ p' = p ∧ c' = c ∧ u' = putSl u p (n * es) new) ∨
    (c < n + m ∧ n + m ≤ c' ∧ p' = some ⟨u.heap.size, 0, none⟩ ∧ u' = allocW (drewW u) (.cells (old ++ new ++ repl (c' - (n + m)) z).toArray e))

def appendVC (u : World) (e : TypeId) (es eb : Nat) (z : List Value) (p : Option Addr) (n c : Nat) (m : Nat) (src : List Value → Prop) (k : Value → World → Prop) : Prop :=
  ∃ old new : List Value, old.length = n * es ∧ Gets u p old ∧ new.length = m * es ∧ src new ∧ 0 < eb ∧ (2 * (n + m) + 192) * eb ≤ 140737488355328 ∧ okCells new True ∧
    (n + m ≤ c → WrS u p (n * es) (m * es)) ∧ ∀ p' c' u', AppR u e es z p n c m old new p' c' u' → k (.slice p' (n + m) c') u'

def copyVC (u : World) (es : Nat) (p : Option Addr) (n m : Nat) (src : List Value → Prop) (k : Value → World → Prop) : Prop :=
  ∃ cs : List Value, cs.length = min m n * es ∧ src cs ∧ okCells cs True ∧ WrS u p 0 (min m n * es) ∧ k (.int .i64 (min m n : Nat)) (putSl u p 0 cs)

def wLen (C : Ctx) (ats : List TypeId) (args : List Value) (u : World) (k : Value → World → Eff → Prop) : Prop :=
  match ats, args with
  | [t], [x] =>
    match C.ti t, x with
    | some { k := .cell .str, .. }, .string s => k (.int .i64 (s.size : Nat)) u .pure
    | some { k := .slice _, .. }, .slice _ n _ => k (.int .i64 (n : Nat)) u .pure
    | some { k := .array n _, .. }, _ => k (.int .i64 (n : Nat)) u .pure
    | _, _ => False
  | _, _ => False

def wMax (args : List Value) (u : World) (k : Value → World → Eff → Prop) : Prop :=
  match args with
  | [.int i x, .int j y] => if i = j then k (.int i (max x y)) u .pure else False
  | _ => False

def wMin (args : List Value) (u : World) (k : Value → World → Eff → Prop) : Prop :=
  match args with
  | [.int i x, .int j y] => if i = j then k (.int i (min x y)) u .pure else False
  | _ => False

def wAppend (C : Ctx) (ats : List TypeId) (args : List Value) (u : World) (k : Value → World → Eff → Prop) : Prop :=
  match ats, args with
  | [t, t'], [.slice p n c, x] =>
    match C.ti t, elemTI C t, C.ti t', x with
    | some { k := .slice _, .. }, some (e, ti), some { k := .slice _, .. }, .slice xp m _ => appendVC u e ti.size ti.bytes ti.zero p n c m (Gets u xp) fun y u' => k y u' .wr
    | some { k := .slice _, .. }, some (e, ti), some { k := .cell .str, .. }, .string s => appendVC u e ti.size ti.bytes ti.zero p n c s.size (fun cs => cs = bytesV s ∧ ti.size = 1) fun y u' => k y u' .wr
    | _, _, _, _ => False
  | _, _ => False

def wCopy (C : Ctx) (ats : List TypeId) (args : List Value) (u : World) (k : Value → World → Eff → Prop) : Prop :=
  match ats, args with
  | [t, _], [.slice p n _, x] =>
    match C.ti t, elemTI C t, x with
    | some { k := .slice _, .. }, some (_, ti), .slice xp m _ => copyVC u ti.size p n m (Gets u xp) fun y u' => k y u' .wr
    | _, _, _ => False
  | _, _ => False

def wBuiltin (C : Ctx) (b : Builtin) (ats : List TypeId) (args : List Value) (u : World) (k : Value → World → Eff → Prop) : Prop :=
  match b with
  | .len => wLen C ats args u k
  | .max => wMax args u k
  | .min => wMin args u k
  | .append => wAppend C ats args u k
  | .copy => wCopy C ats args u k
  | _ => False

def wSlice (C : Ctx) (t : TypeId) (x : Value) (lo hi : Option Int) (k : Value → Prop) : Prop :=
  match x, C.ti t with
  | .string s, some { k := .cell .str, .. } =>
    let l := lo.getD 0
    let h := hi.getD (s.size : Nat)
    0 ≤ l ∧ l ≤ h ∧ h ≤ (s.size : Nat) ∧ k (.string (s.extract l.toNat h.toNat))
  | .slice p n c, some { k := .slice _, .. } =>
    match elemTI C t with
    | some (_, ti) =>
      let l := lo.getD 0
      let h := hi.getD (n : Nat)
      0 ≤ l ∧ l ≤ h ∧ h ≤ (c : Nat) ∧ k (.slice (if c = l.toNat then p else p.map fun a => a.add (l.toNat * ti.size)) (h.toNat - l.toNat) (c - l.toNat))
    | none => False
  | _, _ => False

def optInt (fr : List SV) : Option Operand → Option (Option Int)
  | none => some none
  | some x =>
    match ev fr x with
    | .v (.int _ n) => some (some n)
    | _ => none

def wConvert (C : Ctx) (d : Option Tmp) (src dst : TypeId) (x : Value) (u : World) (k : Value → World → Eff → Prop) : Prop :=
  match C.ti src, C.ti dst, x with
  | some { k := .cell (.int _), .. }, some { k := .cell (.int j), .. }, .int _ n => if memD C.wraps d then k (.int j (j.wrap n)) u .pure else inK j n ∧ k (.int j n) u .pure
  | some { k := .slice e, .. }, some { k := .cell .str, .. }, .slice p n _ =>
    match C.ti e with
    | some { k := .cell (.int .u8), .. } => ∃ s : ByteArray, s.size = n ∧ Gets u p (bytesV s) ∧ k (.string s) u .wr
    | _ => False
  | some { k := .cell .str, .. }, some { k := .slice e, .. }, .string s =>
    match C.ti e with
    | some { k := .cell (.int .u8), .. } => ∀ cap, s.size ≤ cap → k (.slice (some ⟨u.heap.size, 0, none⟩) s.size cap) (allocW (drewW u) (.cells (bytesV s ++ repl (cap - s.size) [.int .u8 0]).toArray e (cap, cap + 1))) .wr
    | _ => False
  | _, _, _ => False

def wBox (C : Ctx) (d : Option Tmp) (t : TypeId) (big : Bool) (cells : List Value) (ls : List Loc) (u : World) (k : KO) : Prop :=
  if memD C.real d then k (.v (.pointer (some ⟨u.heap.size, 0, none⟩))) ls (allocW u (.cells cells.toArray t)) .wr
  else k (.lp ls.length 0) (ls ++ [⟨t, big || memD C.opqs d, cells⟩]) (allocW u hole) .wr

def wLoad (C : Ctx) (t : TypeId) (a : SV) (ls : List Loc) (u : World) (k : KO) : Prop :=
  match a with
  | .lp i off =>
    match ls[i]?, C.ti t with
    | some l, some ti =>
      if l.opq then
        if ti.isAgg && ti.big then (takeN l.cells off ti.size = some l.cells ∧ k (.v (.agg l.cells.toArray)) ls u (.rdLoc i))
        else exOne C.T t fun y => takeN l.cells off ti.size = some y.cells.toList ∧ k (.v y) ls u (.rdLoc i)
      else
        match takeN l.cells off ti.size with
        | some cs =>
          if ti.isAgg then k (.v (.agg cs.toArray)) ls u (.rdLoc i)
          else
            match cs with
            | [c] => k (.v c) ls u (.rdLoc i)
            | _ => False
        | none => False
    | _, _ => False
  | .v (.pointer (some ⟨b, o, none⟩)) => exOne C.T t fun y => (match C.ti t with | some ti => ti.size = y.cells.toList.length | none => False) ∧ Rd u b o y.cells.toList ∧ k (.v y) ls u (.rdMem b o y.cells.toList)
  | _ => False

def wStore (C : Ctx) (t : TypeId) (a : SV) (y : Value) (ls : List Loc) (u : World) (k : KO) : Prop :=
  match C.ti t with
  | some ti =>
    match a with
    | .lp i off =>
      match ls[i]? with
      | some l =>
        if l.opq then
          ti.size = y.cells.toList.length ∧ okCells y.cells.toList (∃ cs, putN l.cells off y.cells.toList = some cs ∧ k .junk (ls.set i { l with cells := cs }) u (.wrLoc i))
        else if Nat.beq ti.size y.cells.toList.length then
          match putN l.cells off y.cells.toList with
          | some cs => okCells y.cells.toList (k .junk (ls.set i { l with cells := cs }) u (.wrLoc i))
          | none => False
        else False
      | none => False
    | .v (.pointer (some ⟨b, o, none⟩)) => ti.size = y.cells.toList.length ∧ okCells y.cells.toList (Wr u b o ti.size ∧ k .junk ls (putCells u b o y.cells.toList) .wr)
    | _ => False
  | none => False

def wIndexAddr (C : Ctx) (t : TypeId) (x : SV) (i : Int) (ls : List Loc) (u : World) (k : KO) : Prop :=
  match C.ti t, elemTI C t, x with
  | some { k := .slice _, .. }, some (_, ti), .v (.slice p n _) => ∃ b o, p = some ⟨b, o, none⟩ ∧ 0 ≤ i ∧ i < (n : Nat) ∧ k (.v (.pointer (some ⟨b, o + i.toNat * ti.size, none⟩))) ls u .pure
  | some { k := .array n _, .. }, some (_, ti), .lp l off => 0 ≤ i ∧ i < (n : Nat) ∧ k (.lp l (off + i.toNat * ti.size)) ls u .pure
  | some { k := .array n _, .. }, some (_, ti), .v (.pointer (some ⟨b, o, none⟩)) => 0 ≤ i ∧ i < (n : Nat) ∧ k (.v (.pointer (some ⟨b, o + i.toNat * ti.size, none⟩))) ls u .pure
  | _, _, _ => False

def wIndex (C : Ctx) (t : TypeId) (x : Value) (i : Int) (k : Value → Prop) : Prop :=
  match x, C.ti t with
  | .string s, some { k := .cell .str, .. } => 0 ≤ i ∧ ∃ c : UInt8, s.data.toList[i.toNat]? = some c ∧ k (.int .u8 (c.toNat : Nat))
  | .agg cs, some { k := .array n _, .. } =>
    match elemTI C t with
    | some (_, ti) => 0 ≤ i ∧ i < (n : Nat) ∧ ∃ xs, takeN cs.toList (i.toNat * ti.size) ti.size = some xs ∧ if ti.isAgg then k (.agg xs.toArray) else ∃ y, xs = [y] ∧ k y
    | none => False
  | _, _ => False

def wCall (C : Ctx) (o : Oper) (f : SV) (args : List Value) (ls : List Loc) (u : World) (k : KO) : Prop :=
  match f with
  | .v (.func (.func id) first captured) => if memN C.fns id then Spec C.P id (first.toList ++ args ++ captured.toList).toArray u fun e u' => exTy C.T o.type fun y => e = .returned y ∧ k (.v y) ls u' .wr else False
  | _ => False

def wOp (C : Ctx) (o : Oper) (fr : List SV) (ls : List Loc) (u : World) (k : KO) : Prop :=
  match o.op with
  | .move x => k (ev fr x) ls u .pure
  | .assign x => k (ev fr x) ls u .pure
  | .pick c a b =>
    match ev fr c with
    | .lit true => k (ev fr a) ls u .pure
    | .lit false => k (ev fr b) ls u .pure
    | .v (.bool t) =>
      match asV (ev fr a), asV (ev fr b) with
      | some (.bool x), some (.bool y) => k (.v (.bool (cond t x y))) ls u .pure
      | _, _ => False
    | _ => False
  | .alloc t =>
    match C.ti t with
    | some ti => if ti.isTuple then False else wBox C o.dst t ti.big ti.zero ls u k
    | none => False
  | .box t x =>
    match C.ti t, asV (ev fr x) with
    | some ti, some y => wBox C o.dst t ti.big y.cells.toList ls u k
    | _, _ => False
  | .build t parts =>
    match C.ti t, partsV fr parts.toList with
    | some ti, some l =>
      if buildable C ti then
        match fillN C t ti.zero l with
        | some cells => k (.v (.agg cells.toArray)) ls u .pure
        | none => False
      else False
    | _, _ => False
  | .buildSlice t n parts =>
    match C.ti t, elemTI C t, partsV fr parts.toList with
    | some { k := .slice _, .. }, some (e, ti), some l =>
      if Nat.ble (n * ti.size) 1000 then
        match fillN C t (repl n ti.zero) l with
        | some cells => k (.v (.slice (some ⟨u.heap.size, 0, none⟩) n n)) ls (allocW u (.cells cells.toArray e)) .wr
        | none => False
      else False
    | _, _, _ => False
  | .load t a => wLoad C t (ev fr a) ls u k
  | .store t a x =>
    match asV (ev fr x) with
    | some y => wStore C t (ev fr a) y ls u k
    | none => False
  | .nilCheck x =>
    match ev fr x with
    | .v (.pointer (some a)) => k (.v (.pointer (some a))) ls u .pure
    | .lp i off => k (.lp i off) ls u .pure
    | .v (.func (.func f) a b) => k (.v (.func (.func f) a b)) ls u .pure
    | _ => False
  | .binOp op t x y _ =>
    match asV (ev fr x), asV (ev fr y) with
    | some a, some b => wBin C o.dst op t a b fun y => k (.v y) ls u .pure
    | _, _ => False
  | .unOp op _ x =>
    match op, ev fr x with
    | .not, .lit b => k (.lit (!b)) ls u .pure
    | .not, .v (.bool b) => k (.v (.bool (!b))) ls u .pure
    | .neg, .v (.int j n) => if memD C.wraps o.dst then k (.v (.int j (j.wrap (0 - n)))) ls u .pure else inK j (-n) ∧ k (.v (.int j (-n))) ls u .pure
    | _, _ => False
  | .convert s d x =>
    match asV (ev fr x) with
    | some y => wConvert C o.dst s d y u fun y u e => k (.v y) ls u e
    | none => False
  | .makeFunc fn first captured =>
    match asVs fr first.toList, asVs fr captured.toList with
    | some a, some b => k (.v (.func fn a.toArray b.toArray)) ls u .pure
    | _, _ => False
  | .makeSlice t l c =>
    match C.ti t, elemTI C t, ev fr l, ev fr c with
    | some { k := .slice _, .. }, some (e, ti), .v (.int _ n), .v (.int _ m) =>
      0 ≤ n ∧ n ≤ m ∧ m ≤ 9223372036854775807 ∧ ti.bytes * m ≤ 140737488355328 ∧ k (.v (.slice (some ⟨u.heap.size, 0, none⟩) n.toNat m.toNat)) ls (allocW u (.cells (repl m.toNat ti.zero).toArray e)) .wr
    | _, _, _, _ => False
  | .slice t x lo hi none =>
    match asV (ev fr x), optInt fr lo, optInt fr hi with
    | some y, some l, some h => wSlice C t y l h fun y => k (.v y) ls u .pure
    | _, _, _ => False
  | .fieldAddr t x f =>
    match fieldAtN C t f, ev fr x with
    | some (off, _), .v (.pointer (some ⟨b, o, none⟩)) => k (.v (.pointer (some ⟨b, o + off, none⟩))) ls u .pure
    | some (off, _), .lp i p => k (.lp i (p + off)) ls u .pure
    | _, _ => False
  | .field t x f =>
    match fieldAtN C t f, ev fr x with
    | some (off, ti), .v (.agg cs) =>
      if Nat.ble 13 (((C.ti t).map (·.size)).getD 0) then exOne C.T (fieldTy C t f) fun y => takeN cs.toList off ti.size = some y.cells.toList ∧ k (.v y) ls u .pure
      else
        match takeN cs.toList off ti.size with
        | some xs =>
          if ti.isAgg then k (.v (.agg xs.toArray)) ls u .pure
          else
            match xs with
            | [y] => k (.v y) ls u .pure
            | _ => False
        | none => False
    | _, _ => False
  | .indexAddr t x i =>
    match ev fr i with
    | .v (.int _ n) => wIndexAddr C t (ev fr x) n ls u k
    | _ => False
  | .index t x i =>
    match asV (ev fr x), ev fr i with
    | some y, .v (.int _ n) => wIndex C t y n fun y => k (.v y) ls u .pure
    | _, _ => False
  | .extract x i =>
    match ev fr x with
    | .v (.tuple vs) =>
      match vs.toList[i]? with
      | some y => k (.v y) ls u .pure
      | none => False
    | _ => False
  | .call c =>
    match asVs fr c.args.toList with
    | some args =>
      match c.callee with
      | .builtin b => wBuiltin C b c.argTypes.toList args u fun y u e => k (.v y) ls u e
      | .value f => wCall C o (ev fr f) args ls u k
      | _ => False
    | none => False
  | _ => False

abbrev KN := List SV → List Loc → World → Prop

/-! ### Regions -/

/-- The slot that a guard looks at. -/
def guardSlot (ops : List Oper) (j : Nat) : Option Tmp := (ops[j]?).bind (·.dst)

/-- Decide an operation's guard: 'run' or 'skip', in a frame where the guard is known. -/
def wGuard (ops : List Oper) (o : Oper) (fr : List SV) (run skip : List SV → Prop) : Prop :=
  match o.guard with
  | none => run fr
  | some (j, want) =>
    match guardSlot ops j with
    | none => False
    | some d =>
      match fr.getD d .junk with
      | .lit b => if b == want then run fr else skip fr
      | .v (.bool b) => (b = true → cond want (run (fr.set d (.lit true))) (skip (fr.set d (.lit true)))) ∧ (b = false → cond want (skip (fr.set d (.lit false))) (run (fr.set d (.lit false))))
      | .v (.tuple _) => skip fr
      | _ => False

def wOps (C : Ctx) (ops : List Oper) (Kn : KN) : List Oper → KN
  | [] => Kn
  | o :: r => fun fr ls u => wGuard ops o fr (fun fr => wOp C o fr ls u fun s ls u _ => wOps C ops Kn r (putS fr o.dst s) ls u) (fun fr => wOps C ops Kn r (putS fr o.dst (.v (.tuple #[]))) ls u)

/-- Does it leave the world alone (whatever it answers)? -/
def isRead (C : Ctx) (o : Oper) : Bool :=
  match o.op with
  | .move _ | .assign _ | .pick .. | .build .. | .load .. | .nilCheck _ | .binOp .. | .unOp .. | .makeFunc .. | .slice .. | .fieldAddr .. | .field .. | .indexAddr .. | .index .. | .extract .. => true
  | .convert s d _ =>
    match C.ti s, C.ti d with
    | some { k := .cell (.int _), .. }, some { k := .cell (.int _), .. } => true
    | _, _ => false
  | .call { callee := .builtin .len, .. } | .call { callee := .builtin .max, .. } | .call { callee := .builtin .min, .. } => true
  | _ => false

/-- What every operation waits for, at last: a mask each. -/
def masks : List Oper → List Nat → List Nat
  | [], acc => acc
  | o :: r, acc => masks r (acc ++ [o.after.toList.foldl (fun s e => if Region.binds .any e then s ||| 2 ^ e.on ||| acc.getD e.on 0 else s) 0])

/-- What was read, and must read the same behind whatever may come ahead of it. -/
inductive Pend where
  | loc (i l : Nat)
  | mem (i b o : Nat) (cs : List Value)

def unord (ms : List Nat) (i j : Nat) : Bool := !((ms.getD j 0).testBit i)

/-- Behind operation 'j', of this effect. -/
def recheck (ms : List Nat) (j : Nat) (e : Eff) (u : World) : List Pend → Prop → Prop
  | [], r => r
  | .loc i l :: pd, r =>
    match e with
    | .wrLoc l' => if unord ms i j && Nat.beq l l' then False else recheck ms j e u pd r
    | _ => recheck ms j e u pd r
  | .mem i b o cs :: pd, r =>
    match e with
    | .wr => if unord ms i j then Rd u b o cs ∧ recheck ms j e u pd r else recheck ms j e u pd r
    | _ => recheck ms j e u pd r

def pend (i : Nat) (e : Eff) (pd : List Pend) : List Pend :=
  match e with
  | .rdLoc l => .loc i l :: pd
  | .rdMem b o cs => .mem i b o cs :: pd
  | _ => pd

def allN {α : Type} (p : α → Prop) : List α → Prop
  | [] => True
  | [x] => p x
  | x :: r => p x ∧ allN p r

def wAny (C : Ctx) (ops : Array Oper) (ms : List Nat) (Kn : KN) : Nat → Array Bool → List Pend → KN
  | 0, listed, _ => fun fr ls u => (if (Region.ready .any ops listed).isEmpty then Kn fr ls u else False)
  | n + 1, listed, pd => fun fr ls u =>
    match Region.ready .any ops listed with
    | [] => Kn fr ls u
    | r :: rs =>
      match (r :: rs).find? fun i => ((ops[i]?).map (isRead C)).getD false && Region.free .any ops listed i with
      | some i =>
        match ops[i]? with
        | some o =>
          wGuard ops.toList o fr
            (fun fr => wOp C o fr ls u fun s ls u e => wAny C ops ms Kn n (listed.setIfInBounds i true) (pend i e pd) (putS fr o.dst s) ls u)
            (fun fr => wAny C ops ms Kn n (listed.setIfInBounds i true) pd (putS fr o.dst (.v (.tuple #[]))) ls u)
        | none => False
      | none =>
        allN (fun i =>
          match ops[i]? with
          | some o =>
            wGuard ops.toList o fr
              (fun fr => wOp C o fr ls u fun s ls u e => recheck ms i e u pd (wAny C ops ms Kn n (listed.setIfInBounds i true) pd (putS fr o.dst s) ls u))
              (fun fr => wAny C ops ms Kn n (listed.setIfInBounds i true) pd (putS fr o.dst (.v (.tuple #[]))) ls u)
          | none => False) (r :: rs)

/-! ### Loops and cuts -/

def ckTy (c : CK) (α : Type) : Type :=
  match c with
  | .int _ => Int → α
  | .bool => Bool → α
  | .str => ByteArray → α
  | .slice => Option Addr → Nat → Nat → α
  | .ptr => Nat → Nat → α
  | .func => Fn → Array Value → Array Value → α

def cksTy : List CK → Type → Type
  | [], α => α
  | c :: r, α => ckTy c (cksTy r α)

def ssTy (s : SS) (α : Type) : Type :=
  match s with
  | .keep | .junk => α
  | .cell c => ckTy c α
  | .agg l => cksTy l α
  | .opq => List Value → α

def slTy : List SS → Type → Type
  | [], α => α
  | s :: r, α => ssTy s (slTy r α)

def lsTy (s : LSS) (α : Type) : Type :=
  match s with
  | .keep => α
  | .cells l => cksTy l α
  | .opq => List Value → α

def llTy : List LSS → Type → Type
  | [], α => α
  | s :: r, α => lsTy s (llTy r α)

def shTy (s : LShape) (α : Type) : Type := slTy s.slots (llTy s.locs α)

/-- The relation at what is there; 'p' takes what comes of it. -/
def apCK {α : Type} (c : CK) (x : Value) (f : ckTy c α) (p : α → Prop) : Prop :=
  match c, x, f with
  | .int k, .int k' n, f => if k = k' then p (f n) else False
  | .bool, .bool b, f => p (f b)
  | .str, .string s, f => p (f s)
  | .slice, .slice a n m, f => p (f a n m)
  | .ptr, .pointer (some ⟨b, o, none⟩), f => p (f b o)
  | .func, .func g a c, f => p (f g a c)
  | _, _, _ => False

def apCKs {α : Type} : (l : List CK) → List Value → cksTy l α → (α → Prop) → Prop
  | [], [], f, p => p f
  | c :: r, x :: xs, f, p => apCK c x f fun g => apCKs r xs g p
  | _, _, _, _ => False

def apSS {α : Type} (s : SS) (x : SV) (f : ssTy s α) (p : α → Prop) : Prop :=
  match s, x, f with
  | .keep, _, f => p f
  | .junk, _, f => p f
  | .cell c, .v x, f => apCK c x f p
  | .cell c, .lit b, f => apCK c (.bool b) f p
  | .agg l, .v (.agg cs), f => apCKs l cs.toList f p
  | .opq, .v (.agg cs), f => p (f cs.toList)
  | _, _, _ => False

def apSl {α : Type} : (l : List SS) → List SV → slTy l α → (α → Prop) → Prop
  | [], [], f, p => p f
  | s :: r, x :: xs, f, p => apSS s x f fun g => apSl r xs g p
  | _, _, _, _ => False

def apLs {α : Type} (s : LSS) (old x : Loc) (f : lsTy s α) (p : α → Prop) : Prop :=
  match s, f with
  | .keep, f => x = old ∧ p f
  | .cells l, f => if Nat.beq x.ty old.ty && x.opq == old.opq then apCKs l x.cells f p else False
  | .opq, f => if Nat.beq x.ty old.ty && x.opq == old.opq then p (f x.cells) else False

/-- More locals than the shape has: what is over is forgotten. -/
def apLl {α : Type} : (l : List LSS) → List Loc → List Loc → llTy l α → (α → Prop) → Prop
  | [], _, _, f, p => p f
  | s :: r, o :: os, x :: xs, f, p => apLs s o x f fun g => apLl r os xs g p
  | _, _, _, _, _ => False

def apSh {α : Type} (s : LShape) (old : List Loc) (fr : List SV) (ls : List Loc) (f : shTy s α) (p : α → Prop) : Prop :=
  apSl s.slots fr f fun g => apLl s.locs old ls g p

/-- For all that may be there. -/
def opCK {α : Type} (c : CK) (f : ckTy c α) (p : Value → α → Prop) : Prop :=
  match c, f with
  | .int k, f => ∀ n : Int, p (.int k n) (f n)
  | .bool, f => ∀ b : Bool, p (.bool b) (f b)
  | .str, f => ∀ s : ByteArray, p (.string s) (f s)
  | .slice, f => ∀ (a : Option Addr) (n m : Nat), p (.slice a n m) (f a n m)
  | .ptr, f => ∀ b o : Nat, p (.pointer (some ⟨b, o, none⟩)) (f b o)
  | .func, f => ∀ (g : Fn) (a c : Array Value), p (.func g a c) (f g a c)

def opCKs {α : Type} : (l : List CK) → cksTy l α → (List Value → α → Prop) → Prop
  | [], f, p => p [] f
  | c :: r, f, p => opCK c f fun x g => opCKs r g fun xs h => p (x :: xs) h

def opSS {α : Type} (s : SS) (old : SV) (f : ssTy s α) (p : SV → α → Prop) : Prop :=
  match s, f with
  | .keep, f => p old f
  | .junk, f => p .junk f
  | .cell c, f => opCK c f fun x g => p (.v x) g
  | .agg l, f => opCKs l f fun xs g => p (.v (.agg xs.toArray)) g
  | .opq, f => ∀ cs : List Value, p (.v (.agg cs.toArray)) (f cs)

def opSl {α : Type} : (l : List SS) → List SV → slTy l α → (List SV → α → Prop) → Prop
  | [], [], f, p => p [] f
  | s :: r, x :: xs, f, p => opSS s x f fun y g => opSl r xs g fun ys h => p (y :: ys) h
  | _, _, _, _ => False

def opLs {α : Type} (s : LSS) (old : Loc) (f : lsTy s α) (p : Loc → α → Prop) : Prop :=
  match s, f with
  | .keep, f => p old f
  | .cells l, f => opCKs l f fun xs g => p { old with cells := xs } g
  | .opq, f => ∀ cs : List Value, p { old with cells := cs } (f cs)

def opLl {α : Type} : (l : List LSS) → List Loc → llTy l α → (List Loc → α → Prop) → Prop
  | [], [], f, p => p [] f
  | s :: r, x :: xs, f, p => opLs s x f fun y g => opLl r xs g fun ys h => p (y :: ys) h
  | _, _, _, _ => False

def opSh {α : Type} (s : LShape) (fr : List SV) (ls : List Loc) (f : shTy s α) (p : List SV → List Loc → α → Prop) : Prop :=
  opSl s.slots fr f fun fr g => opLl s.locs ls g fun ls h => p fr ls h

/-! ### Code -/

def dstsL : List Oper → List Nat
  | [] => []
  | o :: r =>
    match o.dst with
    | some d => d :: dstsL r
    | none => dstsL r

def dsts : Code → List Nat
  | .region _ ops _ => dstsL ops.toList
  | .seq a b => dsts a ++ dsts b
  | .cond _ a b => dsts a ++ dsts b
  | .block _ c => dsts c
  | .loop c => dsts c
  | _ => []

/-- No slot that is kept is written. -/
def keepsOk (ds : List Nat) : Nat → List SS → Bool
  | _, [] => true
  | i, .keep :: r => !memN ds i && keepsOk ds (i + 1) r
  | i, _ :: r => keepsOk ds (i + 1) r

def firstReg : Code → Option Nat
  | .region id _ _ => some id
  | .seq a b =>
    match firstReg a with
    | some r => some r
    | none => firstReg b
  | .cond _ a b =>
    match firstReg a with
    | some r => some r
    | none => firstReg b
  | .block _ c => firstReg c
  | .loop c => firstReg c
  | _ => none

def shapeAt (l : List (Nat × LShape)) : Option Nat → Option LShape
  | some r => lookN l r
  | none => none

def W (C : Ctx) : Code → KN → (Nat → KN) → KN → KN
  | .skip, Kn, _, _ => Kn
  | .region _ ops draw, Kn, _, _ => fun fr ls u =>
    if draw then if Region.noSelect ops then wAny C ops (masks ops.toList []) Kn ops.size (Array.replicate ops.size false) [] fr ls (drewW u) else False else wOps C ops.toList Kn ops.toList fr ls u
  | .seq a b, Kn, Kx, Kr => fun fr ls u =>
    match shapeAt C.cuts (firstReg b) with
    | none => W C a (W C b Kn Kx Kr) Kx Kr fr ls u
    | some sh =>
      if keepsOk (dsts a) 0 sh.slots then
        ∃ J : shTy sh (World → Prop), W C a (fun fr' ls' u' => apSh sh ls fr' ls' J fun j => j u') Kx Kr fr ls u ∧ opSh sh fr ls J fun fr' ls' j => ∀ u', j u' → W C b Kn Kx Kr fr' ls' u'
      else False
  | .cond c a b, Kn, Kx, Kr => fun fr ls u =>
    match ev fr c with
    | .lit true => W C a Kn Kx Kr fr ls u
    | .lit false => W C b Kn Kx Kr fr ls u
    | .v (.bool t) => (t = true → W C a Kn Kx Kr fr ls u) ∧ (t = false → W C b Kn Kx Kr fr ls u)
    | _ => False
  | .block id c, Kn, Kx, Kr => W C c Kn (fun j => if Nat.beq j id then Kn else Kx j) Kr
  | .loop c, _, Kx, Kr => fun fr ls u =>
    match shapeAt C.loops (firstReg c) with
    | none => False
    | some sh =>
      if keepsOk (dsts c) 0 sh.slots then
        ∃ (J : shTy sh (World → Prop)) (M : shTy sh (World → Nat)), (apSh sh ls fr ls J fun j => j u) ∧
          opSh sh fr ls J fun fr' ls' j => apSh sh ls' fr' ls' M fun m => ∀ u', j u' →
            W C c (fun fr'' ls'' u'' => apSh sh ls' fr'' ls'' J fun j' => j' u'' ∧ apSh sh ls' fr'' ls'' M fun m' => m' u'' < m u') Kx Kr fr' ls' u'
      else False
  | .exit id, _, Kx, _ => Kx id
  | .ret, _, _, Kr => Kr
  | _, _, _, _ => fun _ _ _ => False

/-! ### Functions -/

def resOne (C : Ctx) (fr : List SV) (ls : List Loc) (u : World) : ResultVar → (Value → Prop) → Prop
  | .tmp t, p =>
    match asV (ev fr (.tmp t)) with
    | some x => p x
    | none => False
  | .cell a t, p => wLoad C t (ev fr (.tmp a)) ls u fun s _ _ _ =>
    match s with
    | .v x => p x
    | _ => False

def resMany (C : Ctx) (fr : List SV) (ls : List Loc) (u : World) : List ResultVar → (List Value → Prop) → Prop
  | [], p => p []
  | r :: rs, p => resOne C fr ls u r fun x => resMany C fr ls u rs fun l => p (x :: l)

def wRet (C : Ctx) (fn : Func) (R : Ending → World → Prop) : KN := fun fr ls u =>
  resMany C fr ls u fn.results.toList fun l =>
    match l with
    | [x] => R (.returned x) u
    | l => R (.returned (.tuple l.toArray)) u

def wFunc (C : Ctx) (fn : Func) (args : List Value) (u : World) (R : Ending → World → Prop) : Prop :=
  match fn.body with
  | some c => W C c (wRet C fn R) (fun _ _ _ _ => False) (wRet C fn R) (args.map SV.v ++ List.replicate (fn.ntmps - args.length) (.v (.tuple #[]))) [] u
  | none => False

end Go.Proofs.Ytkmmphkjmamckaa
