/- Texts joined: ZA. -/
import Derived.Orders
import Derived.Below
import Derived.KernelRfl
import Derived.Laws.Cells
import Derived.Laws.Strings
import Derived.WalkKit
namespace Go.Proofs.YtkmmphkjmamckacGreatDoor
open Go
set_option linter.all false
def hole : Obj := .deferred none
inductive SV where
 | v (x : Value)
 | lit (b : Bool)
 | lp (i off : Nat)
 | ah
structure Loc where
 ty : TypeId
 opq : Bool
 cells : List Value
inductive CK where
 | int (k : IntKind)
 | bool
 | str
 | slice
 | ptr
 | func
inductive TK where
 | cell (c : CK)
 | slice (e : TypeId)
 | ptr (e : TypeId)
 | struct (fs : List (Nat × TypeId))
 | array (n : Nat) (e : TypeId)
 | tuple (ts : List TypeId)
 | other
structure TI where
 k : TK
 size : Nat
 bytes : Nat
 zero : List Value
def TI.isAgg (t : TI) : Bool :=
 match t.k with
 | .struct _ | .array _ _ => true
 | _ => false
def TI.isTuple (t : TI) : Bool :=
 match t.k with
 | .tuple _ => true
 | _ => false
def TI.big (t : TI) : Bool := Nat.ble 13 t.size
inductive SS where
 | aa
 | ah
 | cell (c : CK)
 | agg (l : List CK)
 | opq
 | lp (i : Nat)
def kp : Nat -> List SS -> List SS
 | 0, l => l
 | n + 1, l => .aa :: kp n l
def jk : Nat -> List SS -> List SS
 | 0, l => l
 | n + 1, l => .ah :: jk n l
def cnd (b : Bool) (X Y : Prop) : Prop := (b = true -> X) /\ (b = false -> Y)
def iI (n : Int) : Value := .int .i64 n
def lq {α : Type} (l : α) : Prop := l = l
inductive LSS where
 | aa
 | cells (l : List CK)
 | opq
 | fresh (ty : TypeId) (q : Bool) (l : List CK)
structure fC where
 fR : List SS
 ej : List LSS
structure Ctx where
 P : Program
 T : List TI
 real : List Nat
 pf : List Nat
 FX : List Nat
 fns : List Nat
 loops : List (Nat × fC)
 GM : List (Nat × fC)
def HG {α : Type} : List (Nat × α) -> Nat -> Option α
 | [], _ => none
 | (k, a) :: r, n => if Nat.beq k n then some a else HG r n
def memN : List Nat -> Nat -> Bool
 | [], _ => false
 | k :: r, n => if Nat.beq k n then true else memN r n
def memD (l : List Nat) : Option Tmp -> Bool
 | some d => memN l d
 | none => false
def tiOf (T : List TI) (t : TypeId) : Option TI :=
 match T[t]? with
 | some ti =>
  match ti.k with
  | .other => none
  | _ => some ti
 | none => none
def Ctx.ti (C : Ctx) (t : TypeId) : Option TI := tiOf C.T t
def cksOf (T : List TI) : Nat -> TypeId -> List CK
 | 0, _ => []
 | n + 1, t =>
  match T[t]? with
  | some ti =>
   match ti.k with
   | .cell c => [c]
   | .slice _ => [.slice]
   | .ptr _ => [.ptr]
   | .struct fs => fs.flatMap fun f => cksOf T n f.2
   | .array m e => (List.replicate m (cksOf T n e)).flatten
   | _ => []
  | none => []
def exCK : CK -> (Value -> Prop) -> Prop
 | .int k, p => ∃ n : Int, p (.int k n)
 | .bool, p => ∃ b : Bool, p (.bool b)
 | .str, p => ∃ s : ByteArray, p (.string s)
 | .slice, p => ∃ (a : Option Addr) (n c : Nat), p (.slice a n c)
 | .ptr, p => ∃ (b o : Nat), p (.pointer (some ⟨b, o, none⟩))
 | .func, p => ∃ (f : Fn) (a c : Array Value), p (.func f a c)
def Gx : List CK -> (List Value -> Prop) -> Prop
 | [], p => p []
 | c :: r, p => exCK c fun x => Gx r fun l => p (x :: l)
def qC (T : List TI) (t : TypeId) (p : Value -> Prop) : Prop :=
 match tiOf T t with
 | some ti =>
  match ti.k with
  | .cell c => exCK c p
  | .slice _ => exCK .slice p
  | .ptr _ => exCK .ptr p
  | .struct _ | .array _ _ => if ti.big then ∃ l : List Value, p (.agg l.toArray) else Gx (cksOf T 6 t) fun l => p (.agg l.toArray)
  | _ => False
 | none => False
def Du (T : List TI) : List TypeId -> (List Value -> Prop) -> Prop
 | [], p => p []
 | t :: r, p => qC T t fun x => Du T r fun l => p (x :: l)
def exTy (T : List TI) (t : TypeId) (p : Value -> Prop) : Prop :=
 match tiOf T t with
 | some { k := .tuple ts, .. } => Du T ts fun l => p (.tuple l.toArray)
 | _ => qC T t p
def Rd (u : World) (b : Nat) : Nat -> List Value -> Prop
 | _, [] => True
 | o, c :: r => u.cell? ⟨b, o, none⟩ = some c /\ Rd u b (o + 1) r
def Wr (u : World) (b : Nat) (o n : Nat) : Prop := ∀ j, j < n -> (∃ c, u.cell? ⟨b, o + j, none⟩ = some c) /\ u.frozen? ⟨b, o + j, none⟩ = false
def szN (n : Nat) : Nat := n
def ae (u : World) (b : Nat) : Nat -> List Value -> World
 | _, [] => u
 | o, c :: r => ae (u.setCell ⟨b, o, none⟩ c) b (o + 1) r
def Gets (u : World) (p : Option Addr) (cs : List Value) : Prop :=
 match p with
 | none => cs = []
 | some a => (cs ≠ [] -> a.spot = none) /\ Rd u a.block a.off cs
def WrS (u : World) (p : Option Addr) (off n : Nat) : Prop :=
 match p with
 | none => True
 | some a => (n ≠ 0 -> a.spot = none) /\ Wr u a.block (a.off + off) n
def bj (u : World) (p : Option Addr) (off : Nat) (cs : List Value) : World :=
 match p with
 | none => u
 | some a => ae u a.block (a.off + off) cs
def af (u : World) : World := { u with drawn := u.drawn + 1 }
def ab (u : World) (o : Obj) : World := { u with heap := u.heap.push o }
def okCells : List Value -> Prop -> Prop
 | [], r => r
 | c :: cs, r =>
  match c with
  | .agg _ | .tuple _ => False
  | _ => okCells cs r
def inK : IntKind -> Int -> Prop
 | .i64, n => -9223372036854775808 <= n /\ n <= 9223372036854775807
 | .u8, n => 0 <= n /\ n <= 255
 | k, n => k.wrap n = n
structure Le (u w : World) : Prop where
 size : w.heap.size = u.heap.size
 tape : w.tape = u.tape
 drawn : w.drawn = u.drawn
 os : w.os = u.os
 output : w.output = u.output
 block : ∀ (k : Nat) (o : Obj), u.heap[k]? = some o -> o = hole \/ w.heap[k]? = some o
structure Kept (u w u' w' : World) : Prop where
 size : u.heap.size <= u'.heap.size
 hole : ∀ k : Nat, u.heap[k]? = some hole -> u'.heap[k]? = some Go.Proofs.YtkmmphkjmamckacGreatDoor.hole /\ w'.heap[k]? = w.heap[k]?
def Spec (P : Program) (f : FuncId) (args : Array Value) (u : World) (R : Ending -> World -> Prop) : Prop :=
 ∀ w, Le u w -> Calls P f args w fun e w' => ∃ u', R e u' /\ Le u' w' /\ Kept u w u' w'
inductive Eff where
 | pure
 | mO (l : Nat)
 | uM (b o : Nat) (cs : List Value)
 | oA (l : Nat)
 | wr
def ev (fr : List SV) : Operand -> SV
 | .tmp t => fr.getD t .ah
 | .const (.bool b) => .lit b
 | .const x => .v x
 | .global g => .v (.pointer (some ⟨g, 0, none⟩))
 | .func f => .v (.func (.func f) #[] #[])
def asV : SV -> Option Value
 | .v x => some x
 | .lit b => some (.bool b)
 | _ => none
def asVs (fr : List SV) : List Operand -> Option (List Value)
 | [] => some []
 | x :: r =>
  match asV (ev fr x), asVs fr r with
  | some y, some l => some (y :: l)
  | _, _ => none
def dy (fr : List SV) (d : Option Tmp) (s : SV) : List SV :=
 match d with
 | some d => fr.set d s
 | none => fr
def takeN {α : Type} : List α -> Nat -> Nat -> Option (List α)
 | _, _, 0 => some []
 | [], _, _ + 1 => none
 | x :: r, 0, n + 1 =>
  match takeN r 0 n with
  | some l => some (x :: l)
  | none => none
 | _ :: r, k + 1, n + 1 => takeN r k (n + 1)
def putN {α : Type} : List α -> Nat -> List α -> Option (List α)
 | l, _, [] => some l
 | [], _, _ :: _ => none
 | _ :: r, 0, y :: ys =>
  match putN r 0 ys with
  | some l => some (y :: l)
  | none => none
 | x :: r, k + 1, ys =>
  match putN r k ys with
  | some l => some (x :: l)
  | none => none
abbrev KO := SV -> List Loc -> World -> Eff -> Prop
def eqV : Value -> Value -> Bool
 | .int _ a, .int _ b => decide (a = b)
 | .bool a, .bool b => a == b
 | .string a, .string b => decide (a.data.toList = b.data.toList)
 | _, _ => false
def eqVs : List Value -> List Value -> Bool
 | [x], [y] => eqV x y
 | x :: xs, y :: ys => eqV x y && eqVs xs ys
 | _, _ => false
def scalar (T : List TI) (t : TypeId) : Bool :=
 match tiOf T t with
 | some { k := .cell (.int _), .. } | some { k := .cell .bool, .. } | some { k := .cell .str, .. } => true
 | _ => false
def scalars (T : List TI) : Nat -> List (Nat × TypeId) -> Bool
 | _, [] => true
 | i, f :: r => Nat.beq f.1 i && scalar T f.2 && scalars T (i + 1) r
def eqTy (C : Ctx) (t : TypeId) : Bool :=
 match C.ti t with
 | some { k := .struct (f :: fs), .. } => scalars C.T 0 (f :: fs)
 | _ => false
def sameKinds (T : List TI) : List (Nat × TypeId) -> List Value -> List Value -> Bool
 | [], [], [] => true
 | f :: r, x :: xs, y :: ys =>
  (match tiOf T f.2, x, y with
   | some { k := .cell (.int _), .. }, .int k _, .int k' _ => decide (k = k')
   | some { k := .cell .bool, .. }, .bool _, .bool _ => true
   | some { k := .cell .str, .. }, .string _, .string _ => true
   | _, _, _ => false) && sameKinds T r xs ys
 | _, _, _ => false
def eqKinds (C : Ctx) (t : TypeId) (xs ys : List Value) : Bool :=
 match C.ti t with
 | some { k := .struct fs, .. } => sameKinds C.T fs xs ys
 | _ => false
def wInt (C : Ctx) (d : Option Tmp) (op : BinOp) (k : IntKind) (a b : Int) (p : Value -> Prop) : Prop :=
 match op with
 | .add => if memD C.pf d then p (.int k (k.wrap (a + b))) else inK k (a + b) /\ p (.int k (a + b))
 | .sub => if memD C.pf d then p (.int k (k.wrap (a - b))) else inK k (a - b) /\ p (.int k (a - b))
 | .mul => if memD C.pf d then p (.int k (k.wrap (a * b))) else inK k (a * b) /\ p (.int k (a * b))
 | .quo => if memD C.pf d then b ≠ 0 /\ p (.int k (k.wrap (a.tdiv b))) else 0 <= a /\ 0 < b /\ inK k a /\ p (.int k (a / b))
 | .rem => if memD C.pf d then b ≠ 0 /\ p (.int k (a.tmod b)) else 0 <= a /\ 0 < b /\ p (.int k (a % b))
 | .eql => p (.bool (decide (a = b)))
 | .neq => p (.bool (!decide (a = b)))
 | .lss => p (.bool (decide (a < b)))
 | .leq => p (.bool (decide (a <= b)))
 | .gtr => p (.bool (decide (b < a)))
 | .geq => p (.bool (decide (b <= a)))
 | _ => False
def wBin (C : Ctx) (d : Option Tmp) (op : BinOp) (t : TypeId) (x y : Value) (p : Value -> Prop) : Prop :=
 match x, y with
 | .int k a, .int k' b => if k = k' then wInt C d op k a b p else False
 | .string a, .string b =>
  match op with
  | .add => ((a.size + b.size : Nat) : Int) <= 9223372036854775807 /\ p (.string (a ++ b))
  | .eql => p (.bool (decide (a.data.toList = b.data.toList)))
  | .neq => p (.bool (!decide (a.data.toList = b.data.toList)))
  | _ => False
 | .bool a, .bool b =>
  match op, C.ti t with
  | .eql, some { k := .cell .bool, .. } => p (.bool (a == b))
  | .neq, some { k := .cell .bool, .. } => p (.bool (!(a == b)))
  | _, _ => False
 | .agg xs, .agg ys =>
  match op with
  | .eql => if eqTy C t && eqKinds C t xs.toList ys.toList then p (.bool (eqVs xs.toList ys.toList)) else False
  | .neq => if eqTy C t && eqKinds C t xs.toList ys.toList then p (.bool (!eqVs xs.toList ys.toList)) else False
  | _ => False
 | .pointer a, .pointer none =>
  match op, C.ti t with
  | .eql, some { k := .ptr _, .. } => p (.bool a.isNone)
  | .neq, some { k := .ptr _, .. } => p (.bool (!a.isNone))
  | _, _ => False
 | .slice a _ _, .slice none _ _ =>
  match op, C.ti t with
  | .eql, some { k := .slice _, .. } => p (.bool a.isNone)
  | .neq, some { k := .slice _, .. } => p (.bool (!a.isNone))
  | _, _ => False
 | _, _ => False
def fieldAtN (C : Ctx) (t : TypeId) (f : Nat) : Option (Nat × TI) :=
 match C.ti t with
 | some { k := .struct fs, .. } =>
  match fs[f]? with
  | some (off, ft) =>
   match C.ti ft with
   | some ti => if Nat.beq ti.size 0 then none else some (off, ti)
   | none => none
  | none => none
 | _ => none
def AN (C : Ctx) (t : TypeId) (f : Nat) : TypeId :=
 match C.ti t with
 | some { k := .struct fs, .. } => (fs[f]?.map (·.2)).getD 0
 | _ => 0
def elemTI (C : Ctx) (t : TypeId) : Option (TypeId × TI) :=
 match C.ti t with
 | some { k := .slice e, .. } | some { k := .array _ e, .. } =>
  match C.ti e with
  | some ti =>
   match ti.k with
   | .tuple _ => none
   | _ => if Nat.beq ti.size 0 then none else some (e, ti)
  | none => none
 | _ => none
def fillN (C : Ctx) (t : TypeId) (cells : List Value) : List (Nat × Value) -> Option (List Value)
 | [] => some cells
 | (i, y) :: r =>
  match (match C.ti t with
   | some { k := .struct _, .. } => fieldAtN C t i
   | some { k := .array _ _, .. } | some { k := .slice _, .. } => (elemTI C t).map fun (e : TypeId × TI) => (i * e.2.size, e.2)
   | _ => none) with
  | some (off, ti) =>
   if Nat.beq y.cells.toList.length ti.size then
    match putN cells off y.cells.toList with
    | some cells => fillN C t cells r
    | none => none
   else none
  | none => none
def buildable (C : Ctx) (ti : TI) : Bool :=
 match ti.k with
 | .struct fs => fs.all fun f => (C.ti f.2).isSome
 | .array _ e => (C.ti e).isSome
 | _ => false
def partsV (fr : List SV) : List (Nat × Operand) -> Option (List (Nat × Value))
 | [] => some []
 | (i, x) :: r =>
  match asV (ev fr x), partsV fr r with
  | some y, some l => some ((i, y) :: l)
  | _, _ => none
def aS (n : Nat) (z : List Value) : List Value := (List.replicate n z).flatten
def aV (s : ByteArray) : List Value := s.data.toList.map fun b => .int .u8 b.toNat
def cD (u : World) (e : TypeId) (es : Nat) (z : List Value) (p : Option Addr) (n c m : Nat) (old new : List Value) (p' : Option Addr) (c' : Nat) (u' : World) : Prop :=
 (n + m <= c /\ p' = p /\ c' = c /\ u' = bj u p (n * es) new) \/
  (c < n + m /\ n + m <= c' /\ p' = some ⟨u.heap.size, 0, none⟩ /\ u' = ab (af u) (.cells (old ++ new ++ aS (c' - (n + m)) z).toArray e))
def yn (u : World) (e : TypeId) (es eb : Nat) (z : List Value) (p : Option Addr) (n c : Nat) (m : Nat) (src : List Value -> Prop) (k : Value -> World -> Prop) : Prop :=
 ∃ old new : List Value, old.length = n * es /\ Gets u p old /\ new.length = m * es /\ src new /\ 0 < eb /\ (2 * (n + m) + 192) * eb <= 140737488355328 /\ okCells new True /\
  (n + m <= c -> WrS u p (n * es) (m * es)) /\ ∀ p' c' u', cD u e es z p n c m old new p' c' u' -> k (.slice p' (n + m) c') u'
def Fc (u : World) (e : TypeId) (es eb : Nat) (z : List Value) (p : Option Addr) (n c : Nat) (m : Int) (k : Value -> World -> Prop) : Prop :=
 ∃ old : List Value, old.length = n * es /\ Gets u p old /\ 0 < eb /\ 0 < es /\ 0 < m /\ ((c : Nat) : Int) < ((n : Nat) : Int) + m /\ (2 * (((n : Nat) : Int) + m) + 192) * ((eb : Nat) : Int) <= 140737488355328 /\
  ∀ p' c' u', cD u e es z p n c m.toNat old (aS m.toNat z) p' c' u' -> k (.slice p' (n + m.toNat) c') u'
def HR (u : World) (es : Nat) (p : Option Addr) (n m : Nat) (src : List Value -> Prop) (k : Value -> World -> Prop) : Prop :=
 ∃ cs : List Value, cs.length = min m n * es /\ src cs /\ okCells cs True /\ WrS u p 0 (min m n * es) /\ k (.int .i64 (min m n : Nat)) (bj u p 0 cs)
def wLen (C : Ctx) (ats : List TypeId) (args : List Value) (u : World) (k : Value -> World -> Eff -> Prop) : Prop :=
 match ats, args with
 | [t], [x] =>
  match C.ti t, x with
  | some { k := .cell .str, .. }, .string s => k (.int .i64 (s.size : Nat)) u .pure
  | some { k := .slice _, .. }, .slice _ n _ => k (.int .i64 (n : Nat)) u .pure
  | some { k := .array n _, .. }, _ => k (.int .i64 (n : Nat)) u .pure
  | _, _ => False
 | _, _ => False
def wMax (args : List Value) (u : World) (k : Value -> World -> Eff -> Prop) : Prop :=
 match args with
 | [.int i x, .int j y] => if i = j then k (.int i (max x y)) u .pure else False
 | _ => False
def Ik (args : List Value) (u : World) (k : Value -> World -> Eff -> Prop) : Prop :=
 match args with
 | [.int i x, .int j y] => if i = j then k (.int i (min x y)) u .pure else False
 | _ => False
def wAppend (C : Ctx) (ats : List TypeId) (args : List Value) (u : World) (k : Value -> World -> Eff -> Prop) : Prop :=
 match ats, args with
 | [t, t'], [.slice p n c, x] =>
  match C.ti t, elemTI C t, C.ti t', x with
  | some { k := .slice _, .. }, some (e, ti), some { k := .slice _, .. }, .slice xp m _ => yn u e ti.size ti.bytes ti.zero p n c m (Gets u xp) fun y u' => k y u' .wr
  | some { k := .slice _, .. }, some (e, ti), some { k := .cell .str, .. }, .string s => yn u e ti.size ti.bytes ti.zero p n c s.size (fun cs => cs = aV s /\ ti.size = 1) fun y u' => k y u' .wr
  | some { k := .slice _, .. }, some (e, ti), some { k := .cell (.int _), .. }, .int _ m => Fc u e ti.size ti.bytes ti.zero p n c m fun y u' => k y u' .wr
  | _, _, _, _ => False
 | _, _ => False
def wCap (C : Ctx) (ats : List TypeId) (args : List Value) (u : World) (k : Value -> World -> Eff -> Prop) : Prop :=
 match ats, args with
 | [t], [.slice _ _ c] =>
  match C.ti t with
  | some { k := .slice _, .. } => k (.int .i64 (c : Nat)) u .wr
  | _ => False
 | _, _ => False
def wClear (C : Ctx) (ats : List TypeId) (args : List Value) (u : World) (k : Value -> World -> Eff -> Prop) : Prop :=
 match ats, args with
 | [t], [.slice p n _] =>
  match C.ti t, elemTI C t with
  | some { k := .slice _, .. }, some (_, ti) => okCells (aS n ti.zero) True /\ WrS u p 0 (n * ti.size) /\ k (.tuple #[]) (bj u p 0 (aS n ti.zero)) .wr
  | _, _ => False
 | _, _ => False
def wCopy (C : Ctx) (ats : List TypeId) (args : List Value) (u : World) (k : Value -> World -> Eff -> Prop) : Prop :=
 match ats, args with
 | [t, _], [.slice p n _, x] =>
  match C.ti t, elemTI C t, x with
  | some { k := .slice _, .. }, some (_, ti), .slice xp m _ => HR u ti.size p n m (Gets u xp) fun y u' => k y u' .wr
  | _, _, _ => False
 | _, _ => False
def wBuiltin (C : Ctx) (b : Builtin) (ats : List TypeId) (args : List Value) (u : World) (k : Value -> World -> Eff -> Prop) : Prop :=
 match b with
 | .len => wLen C ats args u k
 | .max => wMax args u k
 | .min => Ik args u k
 | .append => wAppend C ats args u k
 | .copy => wCopy C ats args u k
 | .cap => wCap C ats args u k
 | .clear => wClear C ats args u k
 | _ => False
def wSlice (C : Ctx) (t : TypeId) (x : Value) (lo hi : Option Int) (k : Value -> Prop) : Prop :=
 match x, C.ti t with
 | .string s, some { k := .cell .str, .. } =>
  let l := lo.getD 0
  let h := hi.getD (s.size : Nat)
  0 <= l /\ l <= h /\ h <= (s.size : Nat) /\ k (.string (s.extract l.toNat h.toNat))
 | .slice p n c, some { k := .slice _, .. } =>
  match elemTI C t with
  | some (_, ti) =>
   let l := lo.getD 0
   let h := hi.getD (n : Nat)
   0 <= l /\ l <= h /\ h <= (c : Nat) /\ k (.slice (if c = l.toNat then p else p.map fun a => a.add (l.toNat * ti.size)) (h.toNat - l.toNat) (c - l.toNat))
  | none => False
 | _, _ => False
def wSlice3 (C : Ctx) (t : TypeId) (x : Value) (lo : Option Int) (h m : Int) (k : Value -> Prop) : Prop :=
 match x, C.ti t with
 | .slice p _ c, some { k := .slice _, .. } =>
  match elemTI C t with
  | some (_, ti) =>
   let l := lo.getD 0
   0 <= l /\ l <= h /\ h <= m /\ m <= (c : Nat) /\ k (.slice (if m.toNat = l.toNat then p else p.map fun a => a.add (l.toNat * ti.size)) (h.toNat - l.toNat) (m.toNat - l.toNat))
  | none => False
 | _, _ => False
def optInt (fr : List SV) : Option Operand -> Option (Option Int)
 | none => some none
 | some x =>
  match ev fr x with
  | .v (.int _ n) => some (some n)
  | _ => none
def wConvert (C : Ctx) (d : Option Tmp) (src dst : TypeId) (x : Value) (u : World) (k : Value -> World -> Eff -> Prop) : Prop :=
 match C.ti src, C.ti dst, x with
 | some { k := .cell (.int _), .. }, some { k := .cell (.int j), .. }, .int _ n => if memD C.pf d then k (.int j (j.wrap n)) u .pure else inK j n /\ k (.int j n) u .pure
 | some { k := .slice e, .. }, some { k := .cell .str, .. }, .slice p n _ =>
  match C.ti e with
  | some { k := .cell (.int .u8), .. } => ∃ s : ByteArray, s.size = n /\ Gets u p (aV s) /\ k (.string s) u .wr
  | _ => False
 | some { k := .cell .str, .. }, some { k := .slice e, .. }, .string s =>
  match C.ti e with
  | some { k := .cell (.int .u8), .. } => ∀ cap, s.size <= cap -> k (.slice (some ⟨u.heap.size, 0, none⟩) s.size cap) (ab (af u) (.cells (aV s ++ aS (cap - s.size) [.int .u8 0]).toArray e (cap, cap + 1))) .wr
  | _ => False
 | _, _, _ => False
def Hx (C : Ctx) (d : Option Tmp) (t : TypeId) (big : Bool) (cells : List Value) (ls : List Loc) (u : World) (k : KO) : Prop :=
 if memD C.real d then k (.v (.pointer (some ⟨u.heap.size, 0, none⟩))) ls (ab u (.cells cells.toArray t)) .wr
 else k (.lp ls.length 0) (ls ++ [⟨t, big || memD C.FX d, cells⟩]) (ab u hole) .wr
def wLoad (C : Ctx) (t : TypeId) (a : SV) (ls : List Loc) (u : World) (k : KO) : Prop :=
 match a with
 | .lp i off =>
  match ls[i]?, C.ti t with
  | some l, some ti =>
   if l.opq then
    if ti.isAgg && ti.big then
     if Nat.beq off 0 then (takeN l.cells off ti.size = some l.cells /\ k (.v (.agg l.cells.toArray)) ls u (.mO i))
     else ∃ xs : List Value, takeN l.cells off ti.size = some xs /\ k (.v (.agg xs.toArray)) ls u (.mO i)
    else qC C.T t fun y => takeN l.cells off ti.size = some y.cells.toList /\ k (.v y) ls u (.mO i)
   else
    match takeN l.cells off ti.size with
    | some cs =>
     if ti.isAgg then k (.v (.agg cs.toArray)) ls u (.mO i)
     else
      match cs with
      | [c] => k (.v c) ls u (.mO i)
      | _ => False
    | none => False
  | _, _ => False
 | .v (.pointer (some ⟨b, o, none⟩)) => qC C.T t fun y => (match C.ti t with | some ti => ti.size = y.cells.toList.length | none => False) /\ Rd u b o y.cells.toList /\ k (.v y) ls u (.uM b o y.cells.toList)
 | _ => False
def wStore (C : Ctx) (t : TypeId) (a : SV) (y : Value) (ls : List Loc) (u : World) (k : KO) : Prop :=
 match C.ti t with
 | some ti =>
  match a with
  | .lp i off =>
   match ls[i]? with
   | some l =>
    if l.opq then
     ti.size = y.cells.toList.length /\ okCells y.cells.toList (∃ cs, putN l.cells off y.cells.toList = some cs /\ k .ah (ls.set i { l with cells := cs }) u (.oA i))
    else if Nat.beq ti.size y.cells.toList.length then
     match putN l.cells off y.cells.toList with
     | some cs => okCells y.cells.toList (k .ah (ls.set i { l with cells := cs }) u (.oA i))
     | none => False
    else False
   | none => False
  | .v (.pointer (some ⟨b, o, none⟩)) => ti.size = y.cells.toList.length /\ okCells y.cells.toList (Wr u b o ti.size /\ k .ah ls (ae u b o y.cells.toList) .wr)
  | _ => False
 | none => False
def wIndexAddr (C : Ctx) (t : TypeId) (x : SV) (i : Int) (ls : List Loc) (u : World) (k : KO) : Prop :=
 match C.ti t, elemTI C t, x with
 | some { k := .slice _, .. }, some (_, ti), .v (.slice p n _) => ∃ b o, p = some ⟨b, o, none⟩ /\ 0 <= i /\ i < (n : Nat) /\ k (.v (.pointer (some ⟨b, o + i.toNat * ti.size, none⟩))) ls u .pure
 | some { k := .array n _, .. }, some (_, ti), .lp l off => 0 <= i /\ i < (n : Nat) /\ k (.lp l (off + i.toNat * ti.size)) ls u .pure
 | some { k := .array n _, .. }, some (_, ti), .v (.pointer (some ⟨b, o, none⟩)) => 0 <= i /\ i < (n : Nat) /\ k (.v (.pointer (some ⟨b, o + i.toNat * ti.size, none⟩))) ls u .pure
 | _, _, _ => False
def wIndex (C : Ctx) (t : TypeId) (x : Value) (i : Int) (k : Value -> Prop) : Prop :=
 match x, C.ti t with
 | .string s, some { k := .cell .str, .. } => 0 <= i /\ ∃ c : UInt8, s.data.toList[i.toNat]? = some c /\ k (.int .u8 (c.toNat : Nat))
 | .agg cs, some { k := .array n _, .. } =>
  match elemTI C t with
  | some (_, ti) => 0 <= i /\ i < (n : Nat) /\ ∃ xs, takeN cs.toList (i.toNat * ti.size) ti.size = some xs /\ if ti.isAgg then k (.agg xs.toArray) else ∃ y, xs = [y] /\ k y
  | none => False
 | _, _ => False
def wCall (C : Ctx) (o : Oper) (f : SV) (args : List Value) (ls : List Loc) (u : World) (k : KO) : Prop :=
 match f with
 | .v (.func (.func id) first captured) => if memN C.fns id then Spec C.P id (first.toList ++ args ++ captured.toList).toArray u fun e u' => exTy C.T o.type fun y => e = .returned y /\ k (.v y) ls u' .wr
  else exTy C.T o.type fun y => (∀ w', Le u w' -> (callFunc id (first.toList ++ args ++ captured.toList).toArray).run C.P w' = .ok (.value y) w') /\ k (.v y) ls u .wr
 | _ => False
def wOp (C : Ctx) (o : Oper) (fr : List SV) (ls : List Loc) (u : World) (k : KO) : Prop :=
 match o.op with
 | .move x => k (ev fr x) ls u .pure
 | .assign x => k (ev fr x) ls u .pure
 | .pick c a b =>
  match ev fr c with
  | .lit true => k (ev fr a) ls u .pure
  | .lit false => k (ev fr b) ls u .pure
  | .v (.bool t) =>
   match asV (ev fr a), asV (ev fr b) with
   | some (.bool x), some (.bool y) => k (.v (.bool (cond t x y))) ls u .pure
   | _, _ => False
  | _ => False
 | .alloc t =>
  match C.ti t with
  | some ti => if ti.isTuple then False else Hx C o.dst t ti.big ti.zero ls u k
  | none => False
 | .box t x =>
  match C.ti t, asV (ev fr x) with
  | some ti, some y => Hx C o.dst t ti.big y.cells.toList ls u k
  | _, _ => False
 | .build t parts =>
  match C.ti t, partsV fr parts.toList with
  | some ti, some l =>
   if buildable C ti then
    match fillN C t ti.zero l with
    | some cells => k (.v (.agg cells.toArray)) ls u .pure
    | none => False
   else False
  | _, _ => False
 | .buildSlice t n parts =>
  match C.ti t, elemTI C t, partsV fr parts.toList with
  | some { k := .slice _, .. }, some (e, ti), some l =>
   if Nat.ble (n * ti.size) 1000 then
    match fillN C t (aS n ti.zero) l with
    | some cells => k (.v (.slice (some ⟨u.heap.size, 0, none⟩) n n)) ls (ab u (.cells cells.toArray e)) .wr
    | none => False
   else False
  | _, _, _ => False
 | .load t a => wLoad C t (ev fr a) ls u k
 | .store t a x =>
  match asV (ev fr x) with
  | some y => wStore C t (ev fr a) y ls u k
  | none => False
 | .nilCheck x =>
  match ev fr x with
  | .v (.pointer (some a)) => k (.v (.pointer (some a))) ls u .pure
  | .lp i off => k (.lp i off) ls u .pure
  | .v (.func (.func f) a b) => k (.v (.func (.func f) a b)) ls u .pure
  | _ => False
 | .binOp op t x y _ =>
  match asV (ev fr x), asV (ev fr y) with
  | some a, some b => wBin C o.dst op t a b fun y => k (.v y) ls u .pure
  | _, _ => False
 | .unOp op _ x =>
  match op, ev fr x with
  | .not, .lit b => k (.lit (!b)) ls u .pure
  | .not, .v (.bool b) => k (.v (.bool (!b))) ls u .pure
  | .neg, .v (.int j n) => if memD C.pf o.dst then k (.v (.int j (j.wrap (0 - n)))) ls u .pure else inK j (-n) /\ k (.v (.int j (-n))) ls u .pure
  | _, _ => False
 | .convert s d x =>
  match asV (ev fr x) with
  | some y => wConvert C o.dst s d y u fun y u e => k (.v y) ls u e
  | none => False
 | .makeFunc fn first captured =>
  match asVs fr first.toList, asVs fr captured.toList with
  | some a, some b => k (.v (.func fn a.toArray b.toArray)) ls u .pure
  | _, _ => False
 | .makeSlice t l c =>
  match C.ti t, elemTI C t, ev fr l, ev fr c with
  | some { k := .slice _, .. }, some (e, ti), .v (.int _ n), .v (.int _ m) =>
   0 <= n /\ n <= m /\ m <= 9223372036854775807 /\ ti.bytes * m <= 140737488355328 /\ k (.v (.slice (some ⟨u.heap.size, 0, none⟩) n.toNat m.toNat)) ls (ab u (.cells (aS m.toNat ti.zero).toArray e)) .wr
  | _, _, _, _ => False
 | .slice t x lo hi none =>
  match asV (ev fr x), optInt fr lo, optInt fr hi with
  | some y, some l, some h => wSlice C t y l h fun y => k (.v y) ls u .pure
  | _, _, _ => False
 | .slice t x lo (some hi) (some m) =>
  match asV (ev fr x), optInt fr lo, ev fr hi, ev fr m with
  | some y, some l, .v (.int _ h), .v (.int _ mx) => wSlice3 C t y l h mx fun y => k (.v y) ls u .pure
  | _, _, _, _ => False
 | .fieldAddr t x f =>
  match fieldAtN C t f, ev fr x with
  | some (off, _), .v (.pointer (some ⟨b, o, none⟩)) => k (.v (.pointer (some ⟨b, o + off, none⟩))) ls u .pure
  | some (off, _), .lp i p => k (.lp i (p + off)) ls u .pure
  | _, _ => False
 | .field t x f =>
  match fieldAtN C t f, ev fr x with
  | some (off, ti), .v (.agg cs) =>
   if Nat.ble 13 (((C.ti t).map (·.size)).getD 0) then qC C.T (AN C t f) fun y => takeN cs.toList off ti.size = some y.cells.toList /\ k (.v y) ls u .pure
   else
    match takeN cs.toList off ti.size with
    | some xs =>
     if ti.isAgg then k (.v (.agg xs.toArray)) ls u .pure
     else
      match xs with
      | [y] => k (.v y) ls u .pure
      | _ => False
    | none => False
  | _, _ => False
 | .indexAddr t x i =>
  match ev fr i with
  | .v (.int _ n) => wIndexAddr C t (ev fr x) n ls u k
  | _ => False
 | .index t x i =>
  match asV (ev fr x), ev fr i with
  | some y, .v (.int _ n) => wIndex C t y n fun y => k (.v y) ls u .pure
  | _, _ => False
 | .extract x i =>
  match ev fr x with
  | .v (.tuple vs) =>
   match vs.toList[i]? with
   | some y => k (.v y) ls u .pure
   | none => False
  | _ => False
 | .call c =>
  match asVs fr c.args.toList with
  | some args =>
   match c.callee with
   | .builtin b => wBuiltin C b c.argTypes.toList args u fun y u e => k (.v y) ls u e
   | .value f => wCall C o (ev fr f) args ls u k
   | _ => False
  | none => False
 | _ => False
abbrev KN := List SV -> List Loc -> World -> Prop
def yW (ops : List Oper) (j : Nat) : Option Tmp := (ops[j]?).bind (·.dst)
def wGuard (ops : List Oper) (o : Oper) (fr : List SV) (run skip : List SV -> Prop) : Prop :=
 match o.guard with
 | none => run fr
 | some (j, want) =>
  match yW ops j with
  | none => False
  | some d =>
   match fr.getD d .ah with
   | .lit b => if b == want then run fr else skip fr
   | .v (.bool b) => (b = true -> cond want (run (fr.set d (.lit true))) (skip (fr.set d (.lit true)))) /\ (b = false -> cond want (skip (fr.set d (.lit false))) (run (fr.set d (.lit false))))
   | .v (.tuple _) => skip fr
   | _ => False
def wOps (C : Ctx) (ops : List Oper) (Kn : KN) : List Oper -> KN
 | [] => Kn
 | o :: r => fun fr ls u => wGuard ops o fr (fun fr => wOp C o fr ls u fun s ls u _ => wOps C ops Kn r (dy fr o.dst s) ls u) (fun fr => wOps C ops Kn r (dy fr o.dst (.v (.tuple #[]))) ls u)
def isRead (C : Ctx) (o : Oper) : Bool :=
 match o.op with
 | .move _ | .assign _ | .pick .. | .build .. | .load .. | .nilCheck _ | .binOp .. | .unOp .. | .makeFunc .. | .slice .. | .fieldAddr .. | .field .. | .indexAddr .. | .index .. | .extract .. => true
 | .convert s d _ =>
  match C.ti s, C.ti d with
  | some { k := .cell (.int _), .. }, some { k := .cell (.int _), .. } => true
  | _, _ => false
 | .call { callee := .builtin .len, .. } | .call { callee := .builtin .max, .. } | .call { callee := .builtin .min, .. } => true
 | _ => false
def masks : List Oper -> List Nat -> List Nat
 | [], acc => acc
 | o :: r, acc => masks r (acc ++ [o.after.toList.foldl (fun s e => if Region.binds .any e then s ||| 2 ^ e.on ||| acc.getD e.on 0 else s) 0])
inductive xU where
 | loc (i l : Nat)
 | mem (i b o : Nat) (cs : List Value)
def qU (ms : List Nat) (i j : Nat) : Bool := !((ms.getD j 0).testBit i)
def recheck (ms : List Nat) (j : Nat) (e : Eff) (u : World) : List xU -> Prop -> Prop
 | [], r => r
 | .loc i l :: pd, r =>
  match e with
  | .oA l' => if qU ms i j && Nat.beq l l' then False else recheck ms j e u pd r
  | _ => recheck ms j e u pd r
 | .mem i b o cs :: pd, r =>
  match e with
  | .wr => if qU ms i j then Rd u b o cs /\ recheck ms j e u pd r else recheck ms j e u pd r
  | _ => recheck ms j e u pd r
def pend (i : Nat) (e : Eff) (pd : List xU) : List xU :=
 match e with
 | .mO l => .loc i l :: pd
 | .uM b o cs => .mem i b o cs :: pd
 | _ => pd
def H4 {α : Type} (p : α -> Prop) : List α -> Prop
 | [] => True
 | [x] => p x
 | x :: r => p x /\ H4 p r
def wAny (C : Ctx) (ops : Array Oper) (ms : List Nat) (Kn : KN) : Nat -> Array Bool -> List xU -> KN
 | 0, listed, _ => fun fr ls u => (if (Region.ready .any ops listed).isEmpty then Kn fr ls u else False)
 | n + 1, listed, pd => fun fr ls u =>
  match Region.ready .any ops listed with
  | [] => Kn fr ls u
  | r :: rs =>
   match (r :: rs).find? fun i => ((ops[i]?).map (isRead C)).getD false && Region.free .any ops listed i with
   | some i =>
    match ops[i]? with
    | some o =>
     wGuard ops.toList o fr
      (fun fr => wOp C o fr ls u fun s ls u e => wAny C ops ms Kn n (listed.setIfInBounds i true) (pend i e pd) (dy fr o.dst s) ls u)
      (fun fr => wAny C ops ms Kn n (listed.setIfInBounds i true) pd (dy fr o.dst (.v (.tuple #[]))) ls u)
    | none => False
   | none =>
    H4 (fun i =>
     match ops[i]? with
     | some o =>
      wGuard ops.toList o fr
       (fun fr => wOp C o fr ls u fun s ls u e => recheck ms i e u pd (wAny C ops ms Kn n (listed.setIfInBounds i true) pd (dy fr o.dst s) ls u))
       (fun fr => wAny C ops ms Kn n (listed.setIfInBounds i true) pd (dy fr o.dst (.v (.tuple #[]))) ls u)
     | none => False) (r :: rs)
def BE (c : CK) (α : Type) : Type :=
 match c with
 | .int _ => Int -> α
 | .bool => Bool -> α
 | .str => ByteArray -> α
 | .slice => Option Addr -> Nat -> Nat -> α
 | .ptr => Nat -> Nat -> α
 | .func => Fn -> Array Value -> Array Value -> α
def ot : List CK -> Type -> Type
 | [], α => α
 | c :: r, α => BE c (ot r α)
def C9 (s : SS) (α : Type) : Type :=
 match s with
 | .aa | .ah | .lp _ => α
 | .cell c => BE c α
 | .agg l => ot l α
 | .opq => List Value -> α
def wQ : List SS -> Type -> Type
 | [], α => α
 | s :: r, α => C9 s (wQ r α)
def Ic (s : LSS) (α : Type) : Type :=
 match s with
 | .aa => α
 | .cells l => ot l α
 | .opq => List Value -> α
 | .fresh _ _ l => ot l α
def tX : List LSS -> Type -> Type
 | [], α => α
 | s :: r, α => Ic s (tX r α)
def xZ (s : fC) (α : Type) : Type := wQ s.fR (tX s.ej α)
def apCK {α : Type} (c : CK) (x : Value) (f : BE c α) (p : α -> Prop) : Prop :=
 match c, x, f with
 | .int k, .int k' n, f => if k = k' then p (f n) else False
 | .bool, .bool b, f => p (f b)
 | .str, .string s, f => p (f s)
 | .slice, .slice a n m, f => p (f a n m)
 | .ptr, .pointer (some ⟨b, o, none⟩), f => p (f b o)
 | .func, .func g a c, f => p (f g a c)
 | _, _, _ => False
def eN {α : Type} : (l : List CK) -> List Value -> ot l α -> (α -> Prop) -> Prop
 | [], [], f, p => p f
 | c :: r, x :: xs, f, p => apCK c x f fun g => eN r xs g p
 | _, _, _, _ => False
def uz {α : Type} (s : SS) (x : SV) (f : C9 s α) (p : α -> Prop) : Prop :=
 match s, x, f with
 | .aa, _, f => p f
 | .ah, _, f => p f
 | .cell c, .v x, f => apCK c x f p
 | .cell c, .lit b, f => apCK c (.bool b) f p
 | .agg l, .v (.agg cs), f => eN l cs.toList f p
 | .opq, .v (.agg cs), f => p (f cs.toList)
 | .lp i, .lp j o, f => if Nat.beq j i && Nat.beq o 0 then p f else False
 | _, _, _ => False
def ru {α : Type} : (l : List SS) -> List SV -> wQ l α -> (α -> Prop) -> Prop
 | [], [], f, p => p f
 | s :: r, x :: xs, f, p => uz s x f fun g => ru r xs g p
 | _, _, _, _ => False
def Ir {α : Type} (s : LSS) (old x : Loc) (f : Ic s α) (p : α -> Prop) : Prop :=
 match s, f with
 | .aa, f => x = old /\ p f
 | .cells l, f => if Nat.beq x.ty old.ty && x.opq == old.opq then eN l x.cells f p else False
 | .opq, f => if Nat.beq x.ty old.ty && x.opq == old.opq then p (f x.cells) else False
 | .fresh _ _ _, _ => False
def dX {α : Type} : (l : List LSS) -> List Loc -> List Loc -> tX l α -> (α -> Prop) -> Prop
 | [], _, _, f, p => p f
 | s :: r, o :: os, x :: xs, f, p => Ir s o x f fun g => dX r os xs g p
 | .fresh ty q l :: r, [], x :: xs, f, p => if Nat.beq x.ty ty && x.opq == q then eN l x.cells f fun g => dX r [] xs g p else False
 | _, _, _, _, _ => False
def mG {α : Type} (s : fC) (old : List Loc) (fr : List SV) (ls : List Loc) (f : xZ s α) (p : α -> Prop) : Prop :=
 ru s.fR fr f fun g => dX s.ej old ls g p
def Hu {α : Type} (c : CK) (f : BE c α) (p : Value -> α -> Prop) : Prop :=
 match c, f with
 | .int k, f => ∀ n : Int, p (.int k n) (f n)
 | .bool, f => ∀ b : Bool, p (.bool b) (f b)
 | .str, f => ∀ s : ByteArray, p (.string s) (f s)
 | .slice, f => ∀ (a : Option Addr) (n m : Nat), p (.slice a n m) (f a n m)
 | .ptr, f => ∀ b o : Nat, p (.pointer (some ⟨b, o, none⟩)) (f b o)
 | .func, f => ∀ (g : Fn) (a c : Array Value), p (.func g a c) (f g a c)
def zc {α : Type} : (l : List CK) -> ot l α -> (List Value -> α -> Prop) -> Prop
 | [], f, p => p [] f
 | c :: r, f, p => Hu c f fun x g => zc r g fun xs h => p (x :: xs) h
def HO {α : Type} (s : SS) (old : SV) (f : C9 s α) (p : SV -> α -> Prop) : Prop :=
 match s, f with
 | .aa, f => p old f
 | .ah, f => p .ah f
 | .cell c, f => Hu c f fun x g => p (.v x) g
 | .agg l, f => zc l f fun xs g => p (.v (.agg xs.toArray)) g
 | .opq, f => ∀ cs : List Value, p (.v (.agg cs.toArray)) (f cs)
 | .lp i, f => p (.lp i 0) f
def GR {α : Type} : (l : List SS) -> List SV -> wQ l α -> (List SV -> α -> Prop) -> Prop
 | [], [], f, p => p [] f
 | s :: r, x :: xs, f, p => HO s x f fun y g => GR r xs g fun ys h => p (y :: ys) h
 | _, _, _, _ => False
def It {α : Type} (s : LSS) (old : Loc) (f : Ic s α) (p : Loc -> α -> Prop) : Prop :=
 match s, f with
 | .aa, f => p old f
 | .cells l, f => zc l f fun xs g => p { old with cells := xs } g
 | .opq, f => ∀ cs : List Value, p { old with cells := cs } (f cs)
 | .fresh _ _ _, _ => False
def Di {α : Type} : (l : List LSS) -> List Loc -> tX l α -> (List Loc -> α -> Prop) -> Prop
 | [], [], f, p => p [] f
 | s :: r, x :: xs, f, p => It s x f fun y g => Di r xs g fun ys h => p (y :: ys) h
 | .fresh ty q l :: r, [], f, p => zc l f fun xs g => Di r [] g fun ys h => p (⟨ty, q, xs⟩ :: ys) h
 | _, _, _, _ => False
def Gb {α : Type} (s : fC) (fr : List SV) (ls : List Loc) (f : xZ s α) (p : List SV -> List Loc -> α -> Prop) : Prop :=
 GR s.fR fr f fun fr g => Di s.ej ls g fun ls h => p fr ls h
def lk : List Oper -> List Nat
 | [] => []
 | o :: r =>
  match o.dst with
  | some d => d :: lk r
  | none => lk r
def dsts : Code -> List Nat
 | .region _ ops _ => lk ops.toList
 | .seq a b => dsts a ++ dsts b
 | .cond _ a b => dsts a ++ dsts b
 | .block _ c => dsts c
 | .loop c => dsts c
 | _ => []
def keepsOk (ds : List Nat) : Nat -> List SS -> Bool
 | _, [] => true
 | i, .aa :: r => !memN ds i && keepsOk ds (i + 1) r
 | i, _ :: r => keepsOk ds (i + 1) r
def lpsOk (n : Nat) : List SS -> Bool
 | [] => true
 | .lp i :: r => Nat.blt i n && lpsOk n r
 | _ :: r => lpsOk n r
def qc : List LSS -> Bool
 | [] => true
 | .fresh _ _ _ :: _ => false
 | _ :: r => qc r
def H5 : List SS -> List SV -> Option (Nat × Nat)
 | .lp k :: r, .lp j _ :: xs => if Nat.beq j k then H5 r xs else some (k, j)
 | _ :: r, _ :: xs => H5 r xs
 | _, _ => none
def swi (k j i : Nat) : Nat := if Nat.beq i k then j else if Nat.beq i j then k else i
def swS (k j : Nat) : SV -> SV
 | .lp i o => .lp (swi k j i) o
 | s => s
def swL {α : Type} (d : α) (k j : Nat) (l : List α) : List α := (l.set k (l.getD j d)).set j (l.getD k d)
def reK (sl : List SS) (n : Nat) (K : List SV -> List Loc -> World -> Prop) : List SV -> List Loc -> World -> Prop := fun fr ls u =>
 match H5 sl fr with
 | none => K fr ls u
 | some (k, j) => if Nat.ble n k && Nat.ble n j && Nat.blt k ls.length && Nat.blt j ls.length then K (fr.map (swS k j)) (swL ⟨0, false, []⟩ k j ls) u else False
def jb : Code -> Option Nat
 | .region id _ _ => some id
 | .seq a b =>
  match jb a with
  | some r => some r
  | none => jb b
 | .cond _ a b =>
  match jb a with
  | some r => some r
  | none => jb b
 | .block _ c => jb c
 | .loop c => jb c
 | _ => none
def Eh (l : List (Nat × fC)) : Option Nat -> Option fC
 | some r => HG l r
 | none => none
def W (C : Ctx) : Code -> KN -> (Nat -> KN) -> KN -> KN
 | .skip, Kn, _, _ => Kn
 | .region _ ops draw, Kn, _, _ => fun fr ls u =>
  if draw then if Region.noSelect ops then wAny C ops (masks ops.toList []) Kn ops.size (Array.replicate ops.size false) [] fr ls (af u) else False else wOps C ops.toList Kn ops.toList fr ls u
 | .seq a b, Kn, Kx, Kr => fun fr ls u =>
  match Eh C.GM (jb b) with
  | none => W C a (W C b Kn Kx Kr) Kx Kr fr ls u
  | some sh =>
   if keepsOk (dsts a) 0 sh.fR && lpsOk sh.ej.length sh.fR then
    ∃ J : xZ sh (World -> Prop), W C a (reK sh.fR ls.length fun fr' ls' u' => mG sh ls fr' ls' J fun j => j u') Kx Kr fr ls u /\ Gb sh fr ls J fun fr' ls' j => ∀ u', j u' -> W C b Kn Kx Kr fr' ls' u'
   else False
 | .cond c a b, Kn, Kx, Kr => fun fr ls u =>
  match ev fr c with
  | .lit true => W C a Kn Kx Kr fr ls u
  | .lit false => W C b Kn Kx Kr fr ls u
  | .v (.bool t) => (t = true -> W C a Kn Kx Kr fr ls u) /\ (t = false -> W C b Kn Kx Kr fr ls u)
  | _ => False
 | .block id c, Kn, Kx, Kr => W C c Kn (fun j => if Nat.beq j id then Kn else Kx j) Kr
 | .loop c, _, Kx, Kr => fun fr ls u =>
  match Eh C.loops (jb c) with
  | none => False
  | some sh =>
   if keepsOk (dsts c) 0 sh.fR && lpsOk 0 sh.fR && qc sh.ej then
    ∃ (J : xZ sh (World -> Prop)) (M : xZ sh (World -> Nat)), (mG sh ls fr ls J fun j => j u) /\
     Gb sh fr ls J fun fr' ls' j => mG sh ls' fr' ls' M fun m => ∀ u', j u' ->
      W C c (fun fr'' ls'' u'' => mG sh ls' fr'' ls'' J fun j' => j' u'' /\ mG sh ls' fr'' ls'' M fun m' => m' u'' < m u') Kx Kr fr' ls' u'
   else False
 | .exit id, _, Kx, _ => Kx id
 | .ret, _, _, Kr => Kr
 | _, _, _, _ => fun _ _ _ => False
def resOne (C : Ctx) (fr : List SV) (ls : List Loc) (u : World) : ResultVar -> (Value -> Prop) -> Prop
 | .tmp t, p =>
  match asV (ev fr (.tmp t)) with
  | some x => p x
  | none => False
 | .cell a t, p => wLoad C t (ev fr (.tmp a)) ls u fun s _ _ _ =>
  match s with
  | .v x => p x
  | _ => False
def zS (C : Ctx) (fr : List SV) (ls : List Loc) (u : World) : List ResultVar -> (List Value -> Prop) -> Prop
 | [], p => p []
 | r :: rs, p => resOne C fr ls u r fun x => zS C fr ls u rs fun l => p (x :: l)
def FY (C : Ctx) (fn : Func) (R : Ending -> World -> Prop) : KN := fun fr ls u =>
 zS C fr ls u fn.results.toList fun l =>
  match l with
  | [x] => R (.returned x) u
  | l => R (.returned (.tuple l.toArray)) u
def wFunc (C : Ctx) (fn : Func) (args : List Value) (u : World) (R : Ending -> World -> Prop) : Prop :=
 match fn.body with
 | some c => W C c (FY C fn R) (fun _ _ _ _ => False) (FY C fn R) (args.map SV.v ++ List.replicate (fn.ntmps - args.length) (.v (.tuple #[]))) [] u
 | none => False
structure re where
 i : Nat
 C : World -> Prop
def Gk (ms : List Nat) (ps : List re) (j : Nat) (w w' : World) : Prop := ∀ q ∈ ps, qU ms q.i j = true -> q.C w -> q.C w'
def NQ (Q : Act -> World -> Prop) : Exit -> Act -> World -> Prop
 | .normal, a, w => Q a w
 | _, _, _ => False
section
variable {P : Program} {ops : Array Oper} {Q : Act -> World -> Prop} {ms : List Nat}
def ri (P : Program) (ops : Array Oper) (Q : Act -> World -> Prop) (ms : List Nat) (ps : List re) : Nat -> Array Bool -> Act -> World -> Prop
 | 0, listed, a, w => Region.ready .any ops listed = [] /\ Q a w
 | n + 1, listed, a, w => (Region.ready .any ops listed = [] -> Q a w) /\ ∀ i ∈ Region.ready .any ops listed,
   wpOp P ops (NQ Q) i (fun a' w' => Gk ms ps i w w' /\ ri P ops Q ms ps n (listed.setIfInBounds i true) a' w') a w
theorem yo {ps : List re} : ∀ (n : Nat) (listed : Array Bool) (a : Act) (w : World), ri P ops Q ms ps n listed a w -> wpAny P .any ops (NQ Q) n listed a w
 | 0, _, _, _, h => h
 | n + 1, _, _, _, h => ⟨h.1, fun i hi => wpOp_mono (fun _ _ h' => yo n _ _ _ h'.2) (h.2 i hi)⟩
def lY (ops : Array Oper) (listed : Array Bool) : Prop := ∀ j oj, ops[j]? = some oj -> listed.getD j false = true -> ∀ e ∈ oj.after, Region.binds .any e = true -> listed.getD e.on false = true
theorem lY.set {listed : Array Bool} (h : lY ops listed) {i : Nat} (hi : i ∈ Region.ready .any ops listed) : lY ops (listed.setIfInBounds i true) := by
 intro j oj hj hl e he hb
 obtain ⟨_, oi, hoi, hall⟩ := mem_ready.1 hi
 by_cases hij : i = j
 ·subst hij
  rw [hoi] at hj
  cases hj
  exact getD_set_true (hall e he hb)
 ·rw [getD_set_ne false hij] at hl
  exact getD_set_true (h j oj hj hl e he hb)
theorem lY.start : lY ops (Array.replicate ops.size false) := by
 intro j oj _ hl
 have : (Array.replicate ops.size false).getD j false = false := by
  rcases Nat.lt_or_ge j ops.size with h | h <;> simp [h]
 rw [this] at hl
 cases hl
def nP (o : Oper) (acc : List Nat) : Nat := o.after.toList.foldl (fun s e => if Region.binds .any e then s ||| 2 ^ e.on ||| acc.getD e.on 0 else s) 0
theorem nz : ∀ (l : List Oper) (acc : List Nat), ∃ r, masks l acc = acc ++ r
 | [], acc => ⟨[], by simp [masks]⟩
 | o :: l, acc => by
  obtain ⟨r, hr⟩ := nz l (acc ++ [nP o acc])
  exact ⟨nP o acc :: r, by rw [masks]; show masks l (acc ++ [nP o acc]) = _; rw [hr]; simp⟩
theorem C2 : ∀ (l : List Oper) (acc : List Nat) (t : Nat) (o : Oper), l[t]? = some o ->
  ∃ acc', acc'.length = acc.length + t /\ (∃ r, masks l acc = acc' ++ r) /\ (masks l acc).getD (acc.length + t) 0 = nP o acc'
 | [], _, _, _, h => by simp at h
 | o :: l, acc, 0, o', h => by
  simp only [List.getElem?_cons_zero, Option.some.injEq] at h
  subst h
  refine ⟨acc, rfl, nz _ _, ?_⟩
  obtain ⟨r, hr⟩ := nz l (acc ++ [nP o acc])
  show (masks l (acc ++ [nP o acc])).getD (acc.length + 0) 0 = _
  rw [hr]
  simp
 | o :: l, acc, t + 1, o', h => by
  simp only [List.getElem?_cons_succ] at h
  obtain ⟨acc', h1, h2, h3⟩ := C2 l (acc ++ [nP o acc]) t o' h
  refine ⟨acc', by rw [h1]; simp; omega, h2, ?_⟩
  show (masks l (acc ++ [nP o acc])).getD (acc.length + (t + 1)) 0 = _
  rw [show acc.length + (t + 1) = (acc ++ [nP o acc]).length + t by simp; omega]
  exact h3
theorem BF (acc : List Nat) (i : Nat) : ∀ (l : List Edge) (s : Nat), (l.foldl (fun s e => if Region.binds .any e then s ||| 2 ^ e.on ||| acc.getD e.on 0 else s) s).testBit i = true ->
  s.testBit i = true \/ ∃ e ∈ l, Region.binds .any e = true /\ (e.on = i \/ (acc.getD e.on 0).testBit i = true)
 | [], s, h => .inl h
 | e :: l, s, h => by
  rw [List.foldl_cons] at h
  rcases BF acc i l _ h with h1 | ⟨e', he', h2⟩
  ·by_cases hb : Region.binds .any e = true
   ·simp only [hb, if_true, Nat.testBit_or, Bool.or_eq_true, Nat.testBit_two_pow, decide_eq_true_eq] at h1
    rcases h1 with (h1 | h1) | h1
    ·exact .inl h1
    ·exact .inr ⟨e, by simp, hb, .inl h1⟩
    ·exact .inr ⟨e, by simp, hb, .inr h1⟩
   ·rw [if_neg hb] at h1
    exact .inl h1
  ·exact .inr ⟨e', by simp [he'], h2⟩
theorem Fi {j i : Nat} {oj : Oper} (hj : ops[j]? = some oj) (hb : ((masks ops.toList []).getD j 0).testBit i = true) :
  ∃ e ∈ oj.after, Region.binds .any e = true /\ (e.on = i \/ (e.on < j /\ ((masks ops.toList []).getD e.on 0).testBit i = true)) := by
 obtain ⟨acc, h1, ⟨r, h2⟩, h3⟩ := C2 ops.toList [] j oj (by simpa using hj)
 simp only [List.length_nil, Nat.zero_add] at h1 h3
 rw [h3] at hb
 rcases BF acc i _ _ hb with h | ⟨e, he, hbd, h⟩
 ·simp at h
 ·refine ⟨e, by simpa using he, hbd, ?_⟩
  rcases h with h | h
  ·exact .inl h
  ·refine .inr ?_
   have hlt : e.on < acc.length := by
    rcases Nat.lt_or_ge e.on acc.length with h' | h'
    ·exact h'
    ·rw [List.getD_eq_getElem?_getD, List.getElem?_eq_none h'] at h; simp at h
   refine ⟨by omega, ?_⟩
   rw [h2, List.getD_eq_getElem?_getD, List.getElem?_append_left hlt, <- List.getD_eq_getElem?_getD]
   exact h
theorem xJ {listed : Array Bool} (hc : lY ops listed) {i : Nat} : ∀ j oj, ops[j]? = some oj -> (∀ e ∈ oj.after, Region.binds .any e = true -> listed.getD e.on false = true) ->
  ((masks ops.toList []).getD j 0).testBit i = true -> listed.getD i false = true := by
 intro j
 induction j using Nat.strongRecOn with
 | _ j ih =>
  intro oj hj hall hb
  obtain ⟨e, he, hbd, h⟩ := Fi hj hb
  have hl := hall e he hbd
  rcases h with h | ⟨hlt, h⟩
  ·rw [<- h]; exact hl
  ·obtain ⟨oe, hoe⟩ : ∃ oe, ops[e.on]? = some oe := by
    have : j < ops.size := (Array.getElem?_eq_some_iff.1 hj).1
    exact ⟨_, Array.getElem?_eq_getElem (by omega)⟩
   exact ih e.on hlt oe hoe (fun e' he' hb' => hc e.on oe hoe hl e' he' hb') h
theorem xF {listed : Array Bool} (hc : lY ops listed) {i j : Nat} (hi : listed.getD i true = false) (hj : j ∈ Region.ready .any ops listed) (hms : ms = masks ops.toList []) : qU ms i j = true := by
 obtain ⟨_, oj, hoj, hall⟩ := mem_ready.1 hj
 unfold qU
 cases hb : (ms.getD j 0).testBit i with
 | false => rfl
 | true =>
  rw [hms] at hb
  have h := xJ hc j oj hoj hall hb
  exfalso
  rcases Nat.lt_or_ge i listed.size with h' | h'
  ·simp [h'] at h hi; rw [hi] at h; cases h
  ·simp [Array.getElem?_eq_none h'] at h
def fu (P : Program) (ops : Array Oper) (C : World -> Prop) (o : Oper) (v : Value) (a : Act) : Prop :=
 (Region.wanted o (yielded ops a.tmps) = true /\ ∀ w, C w -> (execOp a.eval o).run P w = .ok (.value v) w) \/ (Region.wanted o (yielded ops a.tmps) = false /\ v = undef)
theorem fu.wpOp {C : World -> Prop} {i : Nat} {o : Oper} {v : Value} {a : Act} (hi : ops[i]? = some o) (hy : fu P ops C o v a) {w : World} (hC : C w)
  {K : Act -> World -> Prop} {Q : Exit -> Act -> World -> Prop} (h : K (a.put o.dst v) w) : wpOp P ops Q i K a w := by
 unfold Go.wpOp
 simp only [hi]
 rcases hy with ⟨hw, hv⟩ | ⟨hw, rfl⟩
 ·simp only [hw, if_true, Oper.wp, hv w hC, Oper.upon]; exact .inl h
 ·simp only [hw, Bool.false_eq_true, if_false]; exact h
theorem fu.of_same {C : World -> Prop} {o : Oper} {v : Value} {a a' : Act} (hy : fu P ops C o v a) (he : execOp a'.eval o = execOp a.eval o)
  (hw : Region.wanted o (yielded ops a'.tmps) = Region.wanted o (yielded ops a.tmps)) : fu P ops C o v a' := by
 unfold fu at *
 rw [he, hw]
 exact hy
theorem E1 {C : World -> Prop} {j : Nat} {oi oj : Oper} {v : Value} (hj : ops[j]? = some oj) (hap : oi.apart ops oj = true)
  (hsi : ∀ cs b, oi.op ≠ .select cs b) (hsj : ∀ cs b, oj.op ≠ .select cs b) {K : Act -> World -> Prop} {a : Act} {w : World}
  (hy : fu P ops C oi v a) (h : wpOp P ops (NQ Q) j K (a.put oi.dst v) w) :
  wpOp P ops (NQ Q) j (fun a' w' => fu P ops C oi v a' /\ K (a'.put oi.dst v) w') a w := by
 obtain ⟨h1, h2, h3⟩ := Oper.apart_spec hap
 have aa : ∀ (a : Act), fu P ops C oi v a -> ∀ u, fu P ops C oi v (a.put oj.dst u) := fun a hy u =>
  hy.of_same (execOp_put oi hsi a oj.dst u h3) (wanted_put oi a oj.dst u h3)
 have keepD : ∀ d, fu P ops C oi v { a with defers := d :: a.defers } := fun d => hy.of_same rfl rfl
 unfold wpOp at *
 simp only [hj] at *
 rw [wanted_put oj a oi.dst v h1] at h
 split
 ·rename_i hw
  simp only [hw, if_true] at h
  rcases h with h | ⟨_, ⟨_, _, hlets⟩⟩
  case inr => exact hlets.elim
  refine .inl ?_
  unfold Oper.wp at *
  rw [execOp_put oj hsj a oi.dst v h1] at h
  generalize (execOp a.eval oj).run P w = r at *
  cases r with
  | ok n w' =>
   cases n <;> simp only [Oper.upon] at h ⊢
   case value u => exact ⟨aa a hy u, by rw [<- Act.put_comm a v u h2]; exact h⟩
   case skip => exact ⟨aa a hy _, by rw [<- Act.put_comm a v undef h2]; exact h⟩
   case defer d =>
    refine ⟨aa _ (keepD d) _, ?_⟩
    rw [<- Act.put_comm _ v undef h2, <- Act.put_defers]
    exact h
   case enter f args =>
    refine Calls.mono h fun e w'' he => ?_
    cases e with
    | returned u => exact ⟨aa a hy u, by rw [<- Act.put_comm a v u h2]; exact he⟩
    | panicked c => exact he
    | outgrown => obtain ⟨_, _, he⟩ := he; exact he.elim
   case row row args => exact Rows.mono h fun u w'' he => ⟨aa a hy u, by rw [<- Act.put_comm a v u h2]; exact he⟩
  | halt x w' =>
   cases x <;> simp only [Oper.upon] at h ⊢
   case panic u => exact h
 ·rename_i hw
  simp only [hw] at h
  exact ⟨aa a hy _, by rw [<- Act.put_comm a v undef h2]; exact h⟩
theorem s8 {C : World -> Prop} {i : Nat} {oi : Oper} {v : Value} {ps : List re} (hi : ops[i]? = some oi) (hsel : ∀ (j : Nat) (o : Oper) cs b, ops[j]? = some o -> o.op ≠ .select cs b) (hms : ms = masks ops.toList []) :
  ∀ (n : Nat) (listed : Array Bool) (a : Act) (w : World),
   (∀ j oj, ops[j]? = some oj -> j ≠ i -> listed.getD j true = false -> (∀ e ∈ oj.after, Region.binds .any e = true -> e.on ≠ i) -> oi.apart ops oj = true) ->
   lY ops listed -> i ∈ Region.ready .any ops listed -> fu P ops C oi v a -> C w ->
   ri P ops Q ms (⟨i, C⟩ :: ps) n (listed.setIfInBounds i true) (a.put oi.dst v) w -> ri P ops Q ms ps (n + 1) listed a w := by
 have drop : ∀ (n : Nat) (listed : Array Bool) (a : Act) (w : World), ri P ops Q ms (⟨i, C⟩ :: ps) n listed a w -> ri P ops Q ms ps n listed a w := by
  intro n
  induction n with
  | zero => intro listed a w h; exact h
  | succ n ih => intro listed a w h; exact ⟨h.1, fun j hj => wpOp_mono (fun a' w' h' => ⟨fun q hq => h'.1 q (by simp [hq]), ih _ _ _ h'.2⟩) (h.2 j hj)⟩
 intro n
 induction n with
 | zero =>
  intro listed a w _ hc hr hy hC H
  refine ⟨fun h => (by rw [h] at hr; cases hr), fun j hj => ?_⟩
  by_cases hji : j = i
  ·subst hji; exact hy.wpOp hi hC ⟨fun _ _ _ h => h, drop _ _ _ _ H⟩
  ·have := ready_mono hj hji
   rw [H.1] at this
   cases this
 | succ n ih =>
  intro listed a w hfree hc hr hy hC H
  refine ⟨fun h => (by rw [h] at hr; cases hr), fun j hj => ?_⟩
  by_cases hji : j = i
  ·subst hji; exact hy.wpOp hi hC ⟨fun _ _ _ h => h, drop _ _ _ _ H⟩
  ·have h1 := H.2 j (ready_mono hj hji)
   obtain ⟨hjun, oj, hoj, hall⟩ := mem_ready.1 hj
   have hiun := (mem_ready.1 hr).1
   have hnot : ∀ e ∈ oj.after, Region.binds .any e = true -> e.on ≠ i := fun e he hb heq => by
    have h1 := hall e he hb
    rw [heq] at h1
    rcases Nat.lt_or_ge i listed.size with h' | h'
    ·simp [h'] at hiun h1; rw [hiun] at h1; cases h1
    ·simp [Array.getElem?_eq_none h'] at h1
   have hun : qU ms i j = true := xF hc hiun hj hms
   have h2 := E1 hoj (hfree j oj hoj hji hjun hnot) (fun cs b => hsel i oi cs b hi) (fun cs b => hsel j oj cs b hoj) hy h1
   have hfree' : ∀ k ok, ops[k]? = some ok -> k ≠ i -> (listed.setIfInBounds j true).getD k true = false ->
     (∀ e ∈ ok.after, Region.binds .any e = true -> e.on ≠ i) -> oi.apart ops ok = true := fun k ok hk hki hun hno => by
    refine hfree k ok hk hki ?_ hno
    by_cases hjk : j = k
    ·subst hjk; exact hjun
    ·rw [getD_set_ne true hjk] at hun; exact hun
   refine wpOp_mono (fun a' w' h3 => ?_) h2
   obtain ⟨hy', hk, H'⟩ := h3
   refine ⟨fun q hq => hk q (by simp [hq]), ?_⟩
   refine ih (listed.setIfInBounds j true) a' w' hfree' (hc.set hj) (ready_mono hr (Ne.symm hji)) hy' (hk ⟨i, C⟩ (by simp) hun hC) ?_
   rw [Array.setIfInBounds_comm _ _ hji]
   exact H'
end
theorem HE {c : Array Value} {t : TypeId} {f : Nat × Nat} : Obj.cells c t f ≠ hole := by simp [hole]
theorem Le.refl (u : World) : Le u u := ⟨rfl, rfl, rfl, rfl, rfl, fun _ _ h => .inr h⟩
theorem Le.cells {u w : World} (h : Le u w) {k : Nat} {c : Array Value} {t : TypeId} {f : Nat × Nat} (hk : u.heap[k]? = some (.cells c t f)) : w.heap[k]? = some (.cells c t f) :=
 (h.block k _ hk).resolve_left HE
theorem fD {u : World} {a : Addr} {x : Value} (h : u.cell? a = some x) : ∃ c t f, u.heap[a.block]? = some (.cells c t f) /\ c[a.off]? = some x /\ a.spot = none := by
 unfold World.cell? at h
 split at h
 ·rename_i c t f hb
  refine ⟨c, t, f, hb, ?_⟩
  cases hs : a.spot with
  | none => simpa [hs] using h
  | some s => simp [hs] at h
 ·cases h
theorem Le.cell {u w : World} (h : Le u w) {a : Addr} {x : Value} (hx : u.cell? a = some x) : w.cell? a = some x := by
 obtain ⟨c, t, f, hb, _, _⟩ := fD hx
 rw [<- hx]
 exact World.cell?_of_block (by rw [h.cells hb, hb])
theorem Le.frozen {u w : World} (h : Le u w) {a : Addr} {x : Value} (hx : u.cell? a = some x) : w.frozen? a = u.frozen? a := by
 obtain ⟨c, t, f, hb, _, _⟩ := fD hx
 exact World.frozen?_of_block (by rw [h.cells hb, hb])
theorem gG (b o n : Nat) : Addr.add ⟨b, o, none⟩ n = ⟨b, o + n, none⟩ := Addr.add_lit b o n
theorem l8 {u : World} {b : Nat} : ∀ (cs : List Value) (o : Nat), Rd u b o cs ↔ ∀ (j : Nat) v, cs[j]? = some v -> u.cell? ⟨b, o + j, none⟩ = some v
 | [], o => by simp [Rd]
 | c :: cs, o => by
  simp only [Rd, l8 cs (o + 1)]
  constructor
  ·rintro ⟨h0, h⟩ j v hj
   cases j with
   | zero => simp only [List.getElem?_cons_zero, Option.some.injEq] at hj; rw [<- hj]; exact h0
   | succ j => simp only [List.getElem?_cons_succ] at hj; have := h j v hj; rwa [show o + 1 + j = o + (j + 1) by omega] at this
  ·intro h
   refine ⟨h 0 c rfl, fun j v hj => ?_⟩
   have := h (j + 1) v (by simpa using hj)
   rwa [show o + (j + 1) = o + 1 + j by omega] at this
theorem Le.rd {u w : World} (h : Le u w) {b o : Nat} {cs : List Value} (hr : Rd u b o cs) : Rd w b o cs :=
 (l8 cs o).2 fun j v hj => h.cell ((l8 cs o).1 hr j v hj)
theorem Le.wr {u w : World} (h : Le u w) {b o n : Nat} (hr : Wr u b o n) : Wr w b o n := fun j hj => by
 obtain ⟨⟨c, hc⟩, hf⟩ := hr j hj
 exact ⟨⟨c, h.cell hc⟩, by rw [h.frozen hc]; exact hf⟩
theorem Le.aH {u w : World} (h : Le u w) {p : Option Addr} {cs : List Value} (hr : Gets u p cs) : Gets w p cs := by
 cases p with
 | none => exact hr
 | some a => exact ⟨hr.1, h.rd hr.2⟩
theorem Le.wrs {u w : World} (h : Le u w) {p : Option Addr} {off n : Nat} (hr : WrS u p off n) : WrS w p off n := by
 cases p with
 | none => exact hr
 | some a => exact ⟨hr.1, h.wr hr.2⟩
theorem Le.drew {u w : World} (h : Le u w) : Le (af u) (af w) := ⟨h.size, h.tape, by show w.drawn + 1 = u.drawn + 1; rw [h.drawn], h.os, h.output, h.block⟩
theorem heap_alloc (w : World) (o : Obj) (k : Nat) : (ab w o).heap[k]? = if k = w.heap.size then some o else w.heap[k]? := by
 show (w.heap.push o)[k]? = _
 rw [Array.getElem?_push]
theorem Le.alloc {u w : World} (h : Le u w) (o : Obj) : Le (ab u o) (ab w o) := by
 refine ⟨?_, h.tape, h.drawn, h.os, h.output, fun k x hx => ?_⟩
 ·show (w.heap.push o).size = (u.heap.push o).size
  simp [h.size]
 ·rw [heap_alloc] at *
  rw [h.size]
  split at hx
  ·rename_i hk
   simp only [Option.some.injEq] at hx
   subst hx
   rw [if_pos hk]
   exact .inr rfl
  ·rename_i hk
   rw [if_neg hk]
   exact h.block k x hx
theorem Le.hole {u w : World} (h : Le u w) (o : Obj) : Le (ab u hole) (ab w o) := by
 refine ⟨?_, h.tape, h.drawn, h.os, h.output, fun k x hx => ?_⟩
 ·show (w.heap.push o).size = (u.heap.push Go.Proofs.YtkmmphkjmamckacGreatDoor.hole).size
  simp [h.size]
 ·rw [heap_alloc] at *
  rw [h.size]
  split at hx
  ·simp only [Option.some.injEq] at hx
   exact .inl hx.symm
  ·rename_i hk
   rw [if_neg hk]
   exact h.block k x hx
theorem heap_set (w : World) (a : Addr) (v : Value) (k : Nat) : (w.setCell a v).heap[k]? = if a.block = k then (w.heap[k]?).map (fun | .cells c e f => .cells (if a.spot.isSome then c else c.setIfInBounds a.off v) e f | o => o) else w.heap[k]? := by
 simp only [World.setCell, Array.getElem?_modify]
 split
 ·rfl
 ·rfl
theorem Le.set {u w : World} (h : Le u w) {a : Addr} {x : Value} (hx : u.cell? a = some x) (v : Value) : Le (u.setCell a v) (w.setCell a v) := by
 obtain ⟨c, t, f, hb, _, _⟩ := fD hx
 refine ⟨by simp [h.size], h.tape, h.drawn, h.os, h.output, fun k y hy => ?_⟩
 rw [heap_set] at *
 split at hy
 ·rename_i hk
  subst hk
  rw [if_pos rfl, h.cells hb]
  rw [hb] at hy
  exact .inr hy
 ·rename_i hk
  rw [if_neg hk]
  exact h.block k y hy
theorem xV (w : World) {a b : Addr} (v : Value) (h : a ≠ b) : (w.setCell a v).cell? b = w.cell? b := World.cell?_setCell_other w a b v h
theorem Wr.tail {u : World} {b o n : Nat} (h : Wr u b o (n + 1)) (v : Value) : Wr (u.setCell ⟨b, o, none⟩ v) b (o + 1) n := fun j hj => by
 obtain ⟨⟨c, hc⟩, hf⟩ := h (j + 1) (by omega)
 rw [show o + (j + 1) = o + 1 + j by omega] at hc hf
 refine ⟨⟨c, ?_⟩, by rw [World.frozen?_setCell]; exact hf⟩
 rw [xV]
 ·exact hc
 ·intro e
  have := congrArg Addr.off e
  simp at this
  omega
theorem Le.put {b : Nat} : ∀ (cs : List Value) (o : Nat) {u w : World}, Le u w -> Wr u b o cs.length -> Le (ae u b o cs) (ae w b o cs)
 | [], _, _, _, h, _ => h
 | c :: cs, o, u, w, h, hw => by
  obtain ⟨⟨x, hx⟩, _⟩ := hw 0 (by simp)
  exact Le.put cs (o + 1) (h.set (by simpa using hx) c) (hw.tail c)
theorem fb {b : Nat} : ∀ (cs : List Value) (o : Nat) (u : World), (ae u b o cs).heap.size = u.heap.size
 | [], _, _ => rfl
 | c :: cs, o, u => by rw [ae, fb cs (o + 1)]; simp
theorem bE {b : Nat} : ∀ (cs : List Value) (o : Nat) (u : World) (k : Nat), k ≠ b -> (ae u b o cs).heap[k]? = u.heap[k]?
 | [], _, _, _, _ => rfl
 | c :: cs, o, u, k, h => by
  rw [ae, bE cs (o + 1) _ k h, heap_set, if_neg (by exact fun e => h e.symm)]
def plain (v : Value) : Bool := v.oneCell'
theorem bm : ∀ (cs : List Value) (r : Prop), okCells cs r ↔ (∀ c ∈ cs, plain c = true) /\ r
 | [], r => by simp [okCells]
 | c :: cs, r => by
  have ih := bm cs r
  cases c <;> simp [okCells, ih, plain, Value.oneCell']
theorem la {P : Program} {b o : Nat} : ∀ (cs : List Value) (i : Nat) {w : World}, Wr w b (o + i) cs.length -> (∀ c ∈ cs, plain c = true) -> (storeCells ⟨b, o, none⟩ cs i).run P w = .ok () (ae w b (o + i) cs)
 | [], _, _, _, _ => rfl
 | c :: cs, i, w, hw, hp => by
  obtain ⟨⟨x, hx⟩, hf⟩ := hw 0 (by simp)
  simp only [Nat.add_zero] at hx hf
  have h1 := run_store P w ⟨b, o + i, none⟩ c .plain (hp c (by simp))
  rw [hx, hf] at h1
  simp only [storeCells, gG, Sem.run_bind, h1, Bool.false_eq_true, if_false, Result.andThen_ok]
  have := la (P := P) cs (i + 1) (w := w.setCell ⟨b, o + i, none⟩ c) (by rw [show o + (i + 1) = o + i + 1 by omega]; exact hw.tail c) (fun y hy => hp y (by simp [hy]))
  rw [this, ae, show o + (i + 1) = o + i + 1 by omega]
theorem mK {P : Program} {w : World} {b o : Nat} {cs : List Value} (h : Rd w b o cs) : (loadCells ⟨b, o, none⟩ cs.length).run P w = .ok cs.toArray w :=
 run_loadCells_list (P := P) w ⟨b, o, none⟩ cs fun j v hj => by rw [gG]; exact (l8 cs o).1 h j v hj
theorem cI {P : Program} {w : World} {ad : Addr} {cs : List Value} (h : Gets w (some ad) cs) : (loadCells ad cs.length).run P w = .ok cs.toArray w := by
 cases cs with
 | nil => rfl
 | cons c cs =>
  obtain ⟨b, o, s⟩ := ad
  have hs : s = none := h.1 (by simp)
  subst hs
  exact mK h.2
theorem fF {P : Program} {ad : Addr} {off : Nat} {cs : List Value} {w : World} (h : WrS w (some ad) off cs.length) (hp : ∀ c ∈ cs, plain c = true) : (storeCells (ad.add off) cs).run P w = .ok () (ae w ad.block (ad.off + off) cs) := by
 cases cs with
 | nil => rfl
 | cons c cs =>
  obtain ⟨b, o, s⟩ := ad
  have hs : s = none := h.1 (by simp)
  subst hs
  have := la (P := P) (b := b) (o := o + off) (c :: cs) 0 (w := w) (by simpa using h.2) hp
  simpa [gG] using this
theorem lb {α : Type} : ∀ (l : List α) (k n : Nat) (r : List α), takeN l k n = some r -> r.length = n /\ ∀ (j : Nat) v, r[j]? = some v -> l[k + j]? = some v
 | _, _, 0, r, h => by
  have : r = [] := by cases ‹List α› <;> simp_all [takeN]
  subst this
  simp
 | [], _, n + 1, r, h => by simp [takeN] at h
 | x :: l, 0, n + 1, r, h => by
  rw [takeN] at h
  split at h
  ·rename_i r' hr'
   simp only [Option.some.injEq] at h
   subst h
   obtain ⟨h1, h2⟩ := lb l 0 n r' hr'
   refine ⟨by simp [h1], fun j v hj => ?_⟩
   cases j with
   | zero => simpa using hj
   | succ j => simp only [List.getElem?_cons_succ] at hj; have := h2 j v hj; simpa using this
  ·cases h
 | x :: l, k + 1, n + 1, r, h => by
  rw [takeN] at h
  obtain ⟨h1, h2⟩ := lb l k (n + 1) r h
  refine ⟨h1, fun j v hj => ?_⟩
  have := h2 j v hj
  rw [show k + 1 + j = (k + j) + 1 by omega, List.getElem?_cons_succ]
  exact this
theorem mD {α : Type} : ∀ (l : List α) (k : Nat) (ys r : List α), putN l k ys = some r ->
  r.length = l.length /\ k * (if ys = [] then 0 else 1) + ys.length <= l.length /\ ∀ j, r[j]? = if k <= j /\ j < k + ys.length then ys[j - k]? else l[j]?
 | l, k, [], r, h => by
  have : r = l := by cases l <;> simp_all [putN]
  subst this
  refine ⟨rfl, by simp, fun j => ?_⟩
  rw [if_neg (by simp)]
 | [], k, y :: ys, r, h => by simp [putN] at h
 | x :: l, 0, y :: ys, r, h => by
  simp only [putN] at h
  split at h
  ·rename_i r' hr'
   simp only [Option.some.injEq] at h
   subst h
   obtain ⟨h1, h2, h3⟩ := mD l 0 ys r' hr'
   refine ⟨by simp [h1], by simp at h2 ⊢; omega, fun j => ?_⟩
   cases j with
   | zero => simp
   | succ j =>
    rw [List.getElem?_cons_succ, h3 j]
    simp only [Nat.zero_le, true_and, Nat.zero_add, Nat.sub_zero, List.length_cons, List.getElem?_cons_succ]
    by_cases hj : j < ys.length
    ·rw [if_pos hj, if_pos (by omega)]
    ·rw [if_neg hj, if_neg (by omega)]
  ·cases h
 | x :: l, k + 1, y :: ys, r, h => by
  simp only [putN] at h
  split at h
  ·rename_i r' hr'
   simp only [Option.some.injEq] at h
   subst h
   obtain ⟨h1, h2, h3⟩ := mD l k (y :: ys) r' hr'
   refine ⟨by simp [h1], by simp at h2 ⊢; omega, fun j => ?_⟩
   cases j with
   | zero => rw [if_neg (by omega)]; simp
   | succ j =>
    rw [List.getElem?_cons_succ, h3 j]
    simp only [List.length_cons, List.getElem?_cons_succ]
    by_cases hj : k <= j /\ j < k + (ys.length + 1)
    ·rw [if_pos hj, if_pos (by omega), show j + 1 - (k + 1) = j - k by omega]
    ·rw [if_neg hj, if_neg (by omega)]
  ·cases h
theorem zw {α : Type} : ∀ (l : List α) (k : Nat) (y : α) (ys r : List α), putN l k (y :: ys) = some r -> k < l.length /\ putN (l.set k y) (k + 1) ys = some r
 | [], k, y, ys, r, h => by simp [putN] at h
 | x :: l, 0, y, ys, r, h => by
  simp only [putN] at h
  split at h
  ·rename_i r' hr'
   simp only [Option.some.injEq] at h
   subst h
   refine ⟨by simp, ?_⟩
   cases ys with
   | nil =>
    have : r' = l := by cases l <;> simp_all [putN]
    subst this
    cases r' <;> simp [putN]
   | cons z zs => simp only [List.set_cons_zero]; simp [putN, hr']
  ·cases h
 | x :: l, k + 1, y, ys, r, h => by
  simp only [putN] at h
  split at h
  ·rename_i r' hr'
   simp only [Option.some.injEq] at h
   subst h
   obtain ⟨h1, h2⟩ := zw l k y ys r' hr'
   refine ⟨by simp; omega, ?_⟩
   cases ys with
   | nil =>
    have : r' = l.set k y := by revert h2; cases l.set k y <;> simp [putN] <;> exact fun h => h.symm
    subst this
    simp [putN]
   | cons z zs => simp [List.set_cons_succ, putN, h2]
  ·cases h
theorem xo {w : World} {b : Nat} {c : List Value} {t : TypeId} {f : Nat × Nat} (hb : w.heap[b]? = some (.cells c.toArray t f)) {o n : Nat} {cs : List Value} (h : takeN c o n = some cs) : Rd w b o cs := by
 rw [l8]
 intro j v hj
 have := (lb c o n cs h).2 j v hj
 simp [World.cell?, hb, this]
theorem kB {b : Nat} {t : TypeId} : ∀ (cs : List Value) (o : Nat) (c r : List Value) (w : World), w.heap[b]? = some (.cells c.toArray t (0, 0)) -> putN c o cs = some r -> (ae w b o cs).heap[b]? = some (.cells r.toArray t (0, 0))
 | [], o, c, r, w, hb, h => by
  have : r = c := by cases c <;> simp_all [putN]
  subst this
  exact hb
 | y :: ys, o, c, r, w, hb, h => by
  obtain ⟨hk, h'⟩ := zw c o y ys r h
  refine kB ys (o + 1) (c.set o y) r _ ?_ h'
  rw [heap_set, if_pos rfl, hb]
  simp
theorem pt {w : World} {b : Nat} {c : List Value} {t : TypeId} (hb : w.heap[b]? = some (.cells c.toArray t (0, 0))) {o : Nat} {cs r : List Value} (h : putN c o cs = some r) : Wr w b o cs.length := by
 obtain ⟨_, h2, h3⟩ := mD c o cs r h
 intro j hj
 have hne : cs ≠ [] := by intro e; subst e; simp at hj
 simp only [hne, if_false, Nat.mul_one] at h2
 refine ⟨⟨c[o + j]'(by omega), ?_⟩, ?_⟩
 ·simp only [World.cell?, hb]
  simp only [Option.isSome_none, Bool.false_eq_true, if_false]
  rw [List.getElem?_toArray, List.getElem?_eq_getElem]
 ·simp [World.frozen?, hb]
def TKok : TK -> TypeDesc -> Prop
 | .cell (.int k), d => d = .int k
 | .cell .bool, d => d = .bool
 | .cell .str, d => d = .string
 | .cell .func, d => ∃ p r v, d = .func p r v
 | .cell _, _ => False
 | .slice e, d => d = .slice e
 | .ptr e, d => d = .pointer e
 | .struct fs, d => ∃ F : Array Field, d = .struct F /\ (F.toList.map fun f => (f.offset, f.type)) = fs /\ (F.toList.all fun f => f.name != "_") = true
 | .array n e, d => d = .array n e
 | .tuple _, d => ∃ ts, d = .tuple ts
 | .other, _ => False
structure TIok (P : Program) (t : TypeId) (ti : TI) : Prop where
 info : ∃ i, P.info? t = some i /\ i.size = ti.size /\ i.bytes = ti.bytes
 zero : (match ti.k with | .tuple _ => True | _ => ∃ i z, P.info? t = some i /\ i.zero = some z /\ z.cells = ti.zero.toArray)
 Ha : (match ti.k with | .tuple _ => True | _ => ti.zero.length = ti.size)
 under : ∃ d, P.underlying t = some d /\ TKok ti.k d
structure bS (C : Ctx) : Prop where
 ti : ∀ t ti, C.ti t = some ti -> TIok C.P t ti
 mixed : C.P.follows .mixedOrders = true
 fn : ∀ id, memN C.fns id = true -> ∃ fn, C.P.funcs[id]? = some fn /\ (fn.name == "runtime.NumGoroutine") = false /\ fn.body.isNone = false
 eq : ∀ t, eqTy C t = true -> C.P.stoodInHeld t = false /\ C.P.eqGuardType C.P.depth t = false
section
variable {P : Program} {t : TypeId} {ti : TI}
theorem av {d : TypeDesc} (h : P.underlying t = some d) (w : World) : (underlying t).run P w = .ok d w := run_underlying h w
theorem run_sizeOf (h : TIok P t ti) (w : World) : (sizeOf t).run P w = .ok ti.size w := by
 obtain ⟨i, hi, hs, _⟩ := h.info
 simp [sizeOf, typeInfo, hi, hs]
theorem kD (h : TIok P t ti) (w : World) : (isAgg t).run P w = .ok ti.isAgg w := by
 obtain ⟨d, hd, hk⟩ := h.under
 simp only [isAgg, Sem.run_bind, av hd, Result.andThen_ok]
 unfold TI.isAgg
 cases hki : ti.k with
 | cell c => rw [hki] at hk; cases c <;> simp only [TKok] at hk <;> first | (subst hk; rfl) | (obtain ⟨p, r, v, rfl⟩ := hk; rfl) | exact hk.elim
 | slice e => rw [hki] at hk; simp only [TKok] at hk; subst hk; rfl
 | ptr e => rw [hki] at hk; simp only [TKok] at hk; subst hk; rfl
 | struct fs => rw [hki] at hk; obtain ⟨F, rfl, _⟩ := hk; rfl
 | array n e => rw [hki] at hk; simp only [TKok] at hk; subst hk; rfl
 | tuple ts => rw [hki] at hk; obtain ⟨ts, rfl⟩ := hk; rfl
 | other => rw [hki] at hk; exact hk.elim
def Shaped (ti : TI) (y : Value) : Prop := if ti.isAgg then ∃ l : List Value, y = .agg l.toArray else plain y = true
theorem vm {y : Value} (h : plain y = true) : y.cells = #[y] := by cases y <;> simp_all [plain, Value.oneCell', Value.cells]
theorem BM (h : TIok P t ti) {w : World} {b o : Nat} {y : Value} (hs : Shaped ti y) (hz : ti.size = y.cells.toList.length) (hr : Rd w b o y.cells.toList) :
  (loadVar t ⟨b, o, none⟩).run P w = .ok y w := by
 simp only [loadVar, Sem.run_bind, kD h, Result.andThen_ok]
 unfold Shaped at hs
 by_cases ha : ti.isAgg = true
 ·rw [if_pos ha] at hs
  obtain ⟨l, rfl⟩ := hs
  simp only [Value.cells] at hr hz
  simp only [ha, if_true, Sem.run_bind, run_sizeOf h, Result.andThen_ok, Sem.run_pure]
  rw [hz, mK hr]
  rfl
 ·rw [if_neg ha] at hs
  rw [vm hs] at hr
  have hc : w.cell? ⟨b, o, none⟩ = some y := hr.1
  simp [ha, run_load, hc]
theorem xx (h : TIok P t ti) {w : World} {b o : Nat} {y : Value} (hs : Shaped ti y) (hz : ti.size = y.cells.toList.length) (hr : Rd w b o y.cells.toList) :
  (Instr.loadAt t (.pointer (some ⟨b, o, none⟩))).run P w = .ok y w := by
 simp [Instr.loadAt, Instr.sureAddr, BM h hs hz hr]
theorem CJ (h : TIok P t ti) {w : World} {b o : Nat} {y : Value} (hz : ti.size = y.cells.toList.length) (hp : ∀ c ∈ y.cells.toList, plain c = true) (hw : Wr w b o ti.size) :
  (Instr.storeAt t (.pointer (some ⟨b, o, none⟩)) y).run P w = .ok () (ae w b o y.cells.toList) := by
 have hz' : y.cells.size = ti.size := by rw [hz]; simp
 simp only [Instr.storeAt, Instr.sureAddr, Sem.run_bind, Sem.run_pure, Result.andThen_ok, storeVar, run_sizeOf h, hz']
 rw [hz] at hw
 have := la (P := P) (b := b) (o := o) y.cells.toList 0 (w := w) (by simpa using hw) hp
 simpa using this
theorem lW {C : Ctx} (hC : bS C) {f off : Nat} {fi : TI} (h : fieldAtN C t f = some (off, fi)) :
  ∃ (F : Array Field) (ft : Field), C.P.underlying t = some (.struct F) /\ F[f]? = some ft /\ ft.offset = off /\ TIok C.P ft.type fi /\ fi.size ≠ 0 := by
 unfold fieldAtN at h
 split at h
 ·rename_i k fs ht
  split at h
  ·rename_i off' ft hf
   split at h
   ·rename_i tif htf
    split at h
    ·cases h
    ·rename_i hz
     simp only [Option.some.injEq, Prod.mk.injEq] at h
     obtain ⟨rfl, rfl⟩ := h
     obtain ⟨d, hd, F, rfl, hF, _⟩ := (hC.ti _ _ ht).under
     rw [<- hF, List.getElem?_map] at hf
     cases hFf : F.toList[f]? with
     | none => simp [hFf] at hf
     | some fld =>
      simp only [hFf, Option.map_some, Option.some.injEq, Prod.mk.injEq] at hf
      obtain ⟨rfl, rfl⟩ := hf
      refine ⟨F, fld, hd, by simpa using hFf, rfl, hC.ti _ _ htf, fun e => hz ?_⟩
      rw [e]; rfl
   ·cases h
  ·cases h
 ·cases h
theorem vt {C : Ctx} (hC : bS C) {f off : Nat} {fi : TI} (h : fieldAtN C t f = some (off, fi)) (w : World) (b o : Nat) :
  (Instr.fieldAt t (.pointer (some ⟨b, o, none⟩)) f).run C.P w = .ok (.pointer (some ⟨b, o + off, none⟩)) w := by
 obtain ⟨F, ft, hd, hf, rfl, hti, hz⟩ := lW hC h
 simp only [Instr.fieldAt, Sem.run_bind, av hd, Result.andThen_ok, hf, Instr.sureAddr, Sem.run_pure, fieldPlace, run_sizeOf hti, Sem.run_ite, hz, if_false, gG]
theorem aN {C : Ctx} (hC : bS C) {e : TypeId} {ei : TI} (h : elemTI C t = some (e, ei)) :
  TIok C.P e ei /\ ei.size ≠ 0 /\ (∀ ts, ei.k ≠ .tuple ts) /\ ((∃ ti, C.ti t = some ti /\ ti.k = .slice e /\ C.P.underlying t = some (.slice e)) \/ (∃ ti n, C.ti t = some ti /\ ti.k = .array n e /\ C.P.underlying t = some (.array n e))) := by
 unfold elemTI at h
 have fin : ∀ (e' : TypeId) (tie : TI), C.ti e' = some tie -> (match tie.k with | .tuple _ => none | _ => if Nat.beq tie.size 0 then none else some (e', tie)) = some (e, ei) -> e' = e /\ tie = ei /\ TIok C.P e ei /\ ei.size ≠ 0 /\ ∀ ts, ei.k ≠ .tuple ts := by
  intro e' tie hte h
  split at h
  ·cases h
  ·rename_i hnt
   split at h
   ·cases h
   ·rename_i hz
    simp only [Option.some.injEq, Prod.mk.injEq] at h
    obtain ⟨rfl, rfl⟩ := h
    exact ⟨rfl, rfl, hC.ti _ _ hte, fun e => hz (by rw [e]; rfl), fun ts e => hnt ts e⟩
 split at h
 ·rename_i k e' _ _ _ ht
  split at h
  ·rename_i tie hte
   obtain ⟨rfl, rfl, h1, h2, h3⟩ := fin _ _ hte h
   obtain ⟨d, hd, hk⟩ := (hC.ti _ _ ht).under
   simp only [TKok] at hk
   subst hk
   exact ⟨h1, h2, h3, .inl ⟨_, ht, rfl, hd⟩⟩
  ·cases h
 ·rename_i k n e' _ _ _ ht
  split at h
  ·rename_i tie hte
   obtain ⟨rfl, rfl, h1, h2, h3⟩ := fin _ _ hte h
   obtain ⟨d, hd, hk⟩ := (hC.ti _ _ ht).under
   simp only [TKok] at hk
   subst hk
   exact ⟨h1, h2, h3, .inr ⟨_, n, ht, rfl, hd⟩⟩
  ·cases h
 ·cases h
theorem wR {C : Ctx} {e : TypeId} {ei : TI} (he : TIok C.P e ei) (hd : C.P.underlying t = some (.slice e)) (w : World) (b o n c : Nat) (k : IntKind) (i : Int) (h0 : 0 <= i) (h1 : i < n) :
  (Instr.indexAt t (.slice (some ⟨b, o, none⟩) n c) (.int k i)).run C.P w = .ok (.pointer (some ⟨b, o + i.toNat * ei.size, none⟩)) w := by
 simp [Instr.indexAt, av hd, asIntOf, h0, h1, run_sizeOf he, gG]
theorem ov {C : Ctx} {e : TypeId} {ei : TI} (he : TIok C.P e ei) {n : Nat} (hd : C.P.underlying t = some (.array n e)) (w : World) (b o : Nat) (k : IntKind) (i : Int) (h0 : 0 <= i) (h1 : i < n) :
  (Instr.indexAt t (.pointer (some ⟨b, o, none⟩)) (.int k i)).run C.P w = .ok (.pointer (some ⟨b, o + i.toNat * ei.size, none⟩)) w := by
 simp [Instr.indexAt, av hd, asIntOf, Instr.sureAddr, h0, h1, run_sizeOf he, gG]
theorem tM (h : TIok P t ti) {w : World} {cs : Array Value} {off : Nat} {xs : List Value} (hx : takeN cs.toList off ti.size = some xs) (hz : ti.size ≠ 0) :
  (part t cs off).run P w = .ok (if ti.isAgg then .agg xs.toArray else xs.headD undef) w := by
 obtain ⟨hl, hj⟩ := lb _ _ _ _ hx
 simp only [part, Sem.run_bind, kD h, Result.andThen_ok]
 by_cases ha : ti.isAgg = true
 ·simp only [ha, if_true, Sem.run_bind, run_sizeOf h, Result.andThen_ok, Sem.run_pure]
  have hx : cs.extract off (off + ti.size) = xs.toArray := by
   apply Array.ext'
   apply List.ext_getElem?
   intro j
   rcases Nat.lt_or_ge j ti.size with h' | h'
   ·have h1 : xs[j]? = some (xs[j]'(by omega)) := List.getElem?_eq_getElem (by omega)
    have h2 := hj j _ h1
    rw [Array.getElem?_toList] at h2
    have hlt : off + j < cs.size := (Array.getElem?_eq_some_iff.1 h2).1
    simp only [Array.getElem?_toList, h1]
    rw [Array.getElem?_extract, if_pos (by omega)]
    exact h2
   ·have h1 : xs[j]? = none := List.getElem?_eq_none (by omega)
    simp only [Array.getElem?_toList, h1]
    rw [Array.getElem?_eq_none]
    simp
    omega
  rw [hx]
 ·simp only [ha, Bool.false_eq_true, if_false]
  cases xs with
  | nil => exact absurd hl.symm hz
  | cons x xs =>
   have h2 := hj 0 x rfl
   rw [Array.getElem?_toList] at h2
   simp only [Nat.add_zero] at h2
   simp [h2]
end
def SV.holds (ρ : List Nat) : SV -> Value -> Prop
 | .v x, y => y = x
 | .lit b, y => y = .bool b
 | .lp i off, y => ∃ b, ρ[i]? = some b /\ y = .pointer (some ⟨b, off, none⟩)
 | .ah, _ => True
structure cm (ρ : List Nat) (fr : List SV) (a : Act) : Prop where
 defers : a.defers = []
 size : a.tmps.size = fr.length
 slot : ∀ (t : Nat) s y, fr[t]? = some s -> a.tmps[t]? = some y -> s.holds ρ y
structure MS (u0 w0 : World) (ρ : List Nat) (ls : List Loc) (u w : World) : Prop where
 le : Le u w
 kept : Kept u0 w0 u w
 sz : u0.heap.size <= u.heap.size
 len : ρ.length = ls.length
 nodup : ρ.Nodup
 own : ∀ (i : Nat) l b, ls[i]? = some l -> ρ[i]? = some b -> u.heap[b]? = some hole /\ w.heap[b]? = some (.cells l.cells.toArray l.ty (0, 0))
 new : ∀ b ∈ ρ, u0.heap.size <= b
theorem mM {ρ : List Nat} {fr : List SV} {a : Act} (h : cm ρ fr a) (x : Operand) : (ev fr x).holds ρ (a.eval x) := by
 cases x with
 | tmp t =>
  simp only [ev, Act.eval]
  rw [List.getD_eq_getElem?_getD]
  cases hf : fr[t]? with
  | none => exact trivial
  | some s =>
   have hlt : t < fr.length := (List.getElem?_eq_some_iff.1 hf).1
   have hlt' : t < a.tmps.size := by rw [h.size]; exact hlt
   have := h.slot t s _ hf (Array.getElem?_eq_getElem hlt')
   simpa [Array.getD, hlt'] using this
 | const v => cases v <;> simp [ev, Act.eval, SV.holds]
 | global g => rfl
 | func f => rfl
theorem cd {ρ : List Nat} {fr : List SV} {a : Act} (h : cm ρ fr a) {x : Operand} {y : Value} (hx : asV (ev fr x) = some y) : a.eval x = y := by
 have := mM h x
 revert hx this
 cases ev fr x <;> simp [asV, SV.holds]
 ·intro h1 h2; rw [h2, h1]
 ·intro h1 h2; rw [h2, h1]
theorem kY {ρ : List Nat} {fr : List SV} {a : Act} (h : cm ρ fr a) {x : Operand} {y : Value} (hx : ev fr x = .v y) : a.eval x = y := cd h (by rw [hx]; rfl)
theorem ym {ρ : List Nat} {fr : List SV} {a : Act} (h : cm ρ fr a) {x : Operand} {b : Bool} (hx : ev fr x = .lit b) : a.eval x = .bool b := cd h (by rw [hx]; rfl)
theorem BK {ρ : List Nat} {fr : List SV} {a : Act} (h : cm ρ fr a) {x : Operand} {i off : Nat} (hx : ev fr x = .lp i off) : ∃ b, ρ[i]? = some b /\ a.eval x = .pointer (some ⟨b, off, none⟩) := by
 have := mM h x
 rw [hx] at this
 exact this
theorem kz {ρ : List Nat} {fr : List SV} {a : Act} (h : cm ρ fr a) : ∀ (xs : List Operand) (ys : List Value), asVs fr xs = some ys -> xs.map a.eval = ys
 | [], ys, hx => by simp only [asVs, Option.some.injEq] at hx; simp [<- hx]
 | x :: xs, ys, hx => by
  simp only [asVs] at hx
  split at hx
  ·rename_i y l hy hl
   simp only [Option.some.injEq] at hx
   rw [<- hx, List.map_cons, cd h hy, kz h xs l hl]
  ·cases hx
theorem pO {ρ : List Nat} {fr : List SV} {a : Act} (h : cm ρ fr a) : ∀ (xs : List (Nat × Operand)) (ys : List (Nat × Value)), partsV fr xs = some ys -> (xs.map fun (i, x) => (i, a.eval x)) = ys
 | [], ys, hx => by simp only [partsV, Option.some.injEq] at hx; simp [<- hx]
 | (i, x) :: xs, ys, hx => by
  simp only [partsV] at hx
  split at hx
  ·rename_i y l hy hl
   simp only [Option.some.injEq] at hx
   rw [<- hx, List.map_cons]
   show (i, a.eval x) :: _ = _
   rw [cd h hy, pO h xs l hl]
  ·cases hx
theorem qb {k : IntKind} {n : Int} (h : inK k n) : k.wrap n = n := by
 cases k <;> simp only [inK] at h
 case i64 => exact IntWalk.i64_in n h
 case u8 => exact IntWalk.u8_in n h
 all_goals exact h
theorem Hd {k : IntKind} {a b : Int} (h : inK k a) (ha : 0 <= a) (hb : 0 < b) : k.wrap (a / b) = a / b := by
 have h1 : 0 <= a / b := Int.ediv_nonneg ha (by omega)
 have h2 : a / b <= a := Int.ediv_le_self _ ha
 have h0 := qb h
 have key : k.min <= a /\ a <= k.max := by
  rw [<- h0]
  cases k <;> simp [IntKind.min, IntKind.max, IntKind.wrap, IntKind.bits, IntKind.signed] <;> (try split) <;> omega
 cases k <;> simp [IntKind.min, IntKind.max, IntKind.bits, IntKind.signed] at key <;> simp [IntKind.wrap, IntKind.bits, IntKind.signed] <;> (try split) <;> omega
theorem AT {P : Program} {op : BinOp} {t : TypeId} {k : IntKind} {a b : Int} {C : Ctx} {d : Option Tmp} {p : Value -> Prop} (h : wInt C d op k a b p) :
  ∃ v, p v /\ ∀ w, (binOp op t (.int k a) (.int k b)).run P w = .ok v w := by
 cases op <;> simp only [wInt] at h
 case add =>
  split at h
  ·exact ⟨_, h, fun w => by simp [binOp, Op.intArith]⟩
  ·exact ⟨_, h.2, fun w => by simp [binOp, Op.intArith, qb h.1]⟩
 case sub =>
  split at h
  ·exact ⟨_, h, fun w => by simp [binOp, Op.intArith]⟩
  ·exact ⟨_, h.2, fun w => by simp [binOp, Op.intArith, qb h.1]⟩
 case mul =>
  split at h
  ·exact ⟨_, h, fun w => by simp [binOp, Op.intArith]⟩
  ·exact ⟨_, h.2, fun w => by simp [binOp, Op.intArith, qb h.1]⟩
 case quo =>
  split at h
  ·exact ⟨_, h.2, fun w => by simp [binOp, Op.intDiv, h.1]⟩
  ·obtain ⟨h1, h2, h3, h4⟩ := h
   refine ⟨_, h4, fun w => ?_⟩
   have hb : b ≠ 0 := by omega
   simp [binOp, Op.intDiv, hb, Int.tdiv_eq_ediv_of_nonneg h1, Hd h3 h1 h2]
 case rem =>
  split at h
  ·exact ⟨_, h.2, fun w => by simp [binOp, Op.intDiv, h.1]⟩
  ·obtain ⟨h1, h2, h4⟩ := h
   refine ⟨_, h4, fun w => ?_⟩
   have hb : b ≠ 0 := by omega
   simp [binOp, Op.intDiv, hb, Int.tmod_eq_emod_of_nonneg h1]
 case eql => exact ⟨_, h, fun w => by simp [binOp, Op.intCmp]; rfl⟩
 case neq => exact ⟨_, h, fun w => by simp [binOp, Op.intCmp]; rfl⟩
 case lss => exact ⟨_, h, fun w => by simp [binOp, Op.intCmp]⟩
 case leq => exact ⟨_, h, fun w => by simp [binOp, Op.intCmp]⟩
 case gtr => exact ⟨_, h, fun w => by simp [binOp, Op.intCmp]⟩
 case geq => exact ⟨_, h, fun w => by simp [binOp, Op.intCmp]⟩
theorem rY {P : Program} {t : TypeId} {ti : TI} (h : TIok P t ti) (ha : ti.isAgg = false) {w : World} {cs : Array Value} {off : Nat} {x : Value} (hx : cs[off]? = some x) : (part t cs off).run P w = .ok x w := by
 simp [part, kD h, ha, hx]
theorem vr {C : Ctx} (hC : bS C) {t : TypeId} (h : scalar C.T t = true) : ∃ ti, C.ti t = some ti /\ TIok C.P t ti /\ ti.isAgg = false /\
  ((∃ k, ti.k = .cell (.int k) /\ C.P.underlying t = some (.int k)) \/ (ti.k = .cell .bool /\ C.P.underlying t = some .bool) \/ (ti.k = .cell .str /\ C.P.underlying t = some .string)) := by
 unfold scalar at h
 split at h
 ·rename_i k _ _ _ ht
  have hti := hC.ti t _ ht
  obtain ⟨d, hd, hk⟩ := hti.under
  exact ⟨_, ht, hti, rfl, .inl ⟨k, rfl, by rw [hd]; simpa [TKok] using hk⟩⟩
 ·rename_i _ _ _ ht
  have hti := hC.ti t _ ht
  obtain ⟨d, hd, hk⟩ := hti.under
  exact ⟨_, ht, hti, rfl, .inr (.inl ⟨rfl, by rw [hd]; simpa [TKok] using hk⟩)⟩
 ·rename_i _ _ _ ht
  have hti := hC.ti t _ ht
  obtain ⟨d, hd, hk⟩ := hti.under
  exact ⟨_, ht, hti, rfl, .inr (.inr ⟨rfl, by rw [hd]; simpa [TKok] using hk⟩)⟩
 ·cases h
theorem C5 (a b : ByteArray) : (a.toList == b.toList) = decide (a.data.toList = b.data.toList) := by
 rw [ByteArray.toList_eq, ByteArray.toList_eq, Bool.eq_iff_iff, beq_iff_eq, decide_eq_true_iff]
theorem yS (a b : ByteArray) : (a == b) = decide (a.data.toList = b.data.toList) := by
 show (a.data == b.data) = _
 by_cases h : a.data = b.data
 ·simp [h]
 ·have h' : ¬ a.data.toList = b.data.toList := fun e => h (Array.ext' e)
  rw [decide_eq_false h', beq_eq_false_iff_ne]
  exact h
theorem yN {C : Ctx} (hC : bS C) {t : TypeId} (hs : scalar C.T t = true) {x y : Value} (hk : (match tiOf C.T t, x, y with
   | some { k := .cell (.int _), .. }, .int k _, .int k' _ => decide (k = k')
   | some { k := .cell .bool, .. }, .bool _, .bool _ => true
   | some { k := .cell .str, .. }, .string _, .string _ => true
   | _, _, _ => false) = true) (d : Nat) (w : World) : (Op.equalIn (d + 1) t x y).run C.P w = .ok (eqV x y) w := by
 obtain ⟨ti, ht, _, _, h⟩ := vr hC hs
 unfold Ctx.ti at ht
 rw [ht] at hk
 obtain ⟨tk, s, bt, z⟩ := ti
 rcases h with ⟨k, rfl, hu⟩ | ⟨rfl, hu⟩ | ⟨rfl, hu⟩
 ·cases x <;> cases y <;> simp only [Bool.false_eq_true] at hk
  simp only [decide_eq_true_eq] at hk
  subst hk
  simp only [Op.equalIn, Sem.run_bind, av hu, Result.andThen_ok, if_true, Sem.run_pure, eqV]
  rfl
 ·cases x <;> cases y <;> simp only [Bool.false_eq_true] at hk
  simp only [Op.equalIn, Sem.run_bind, av hu, Result.andThen_ok, Sem.run_pure, eqV]
 ·cases x <;> cases y <;> simp only [Bool.false_eq_true] at hk
  simp only [Op.equalIn, Sem.run_bind, av hu, Result.andThen_ok, Sem.run_pure, eqV, yS]
theorem mj {C : Ctx} (hC : bS C) {xs ys : Array Value} (d : Nat) (w : World) : ∀ (F : List Field) (i : Nat) (xl yl : List Value),
  (∀ f ∈ F, f.name ≠ "_") -> scalars C.T i (F.map fun f => (f.offset, f.type)) = true -> sameKinds C.T (F.map fun f => (f.offset, f.type)) xl yl = true ->
  (∀ j v, xl[j]? = some v -> xs[i + j]? = some v) -> (∀ j v, yl[j]? = some v -> ys[i + j]? = some v) -> xl ≠ [] ->
  ((forIn F ((none, ()) : Option Bool × Unit) fun f _ => (do
   if f.name ≠ "_" then
    if !(<- Op.equalIn (d + 1) f.type (<- part f.type xs f.offset) (<- part f.type ys f.offset)) then pure (ForInStep.done (some false, ()))
    else pure (ForInStep.yield (none, ()))
   else pure (ForInStep.yield (none, ())) : Sem (ForInStep (Option Bool × Unit)))).run C.P w) = .ok ((if eqVs xl yl then none else some false), ()) w
 | [], i, xl, yl, _, _, hk, _, _, hne => by
  cases xl <;> cases yl <;> simp [sameKinds] at hk
  exact absurd rfl hne
 | f :: F, i, xl, yl, hn, hs, hk, hx, hy, hne => by
  cases xl with
  | nil => exact absurd rfl hne
  | cons x xl =>
   cases yl with
   | nil => simp [sameKinds] at hk
   | cons y yl =>
    simp only [List.map_cons, scalars, Bool.and_eq_true] at hs
    obtain ⟨⟨hoff, hsc⟩, hs'⟩ := hs
    have hoff' : f.offset = i := Nat.eq_of_beq_eq_true hoff
    simp only [List.map_cons, sameKinds, Bool.and_eq_true] at hk
    obtain ⟨hk1, hk'⟩ := hk
    obtain ⟨ti, ht, hti, hagg, _⟩ := vr hC hsc
    have hx0 : xs[f.offset]? = some x := by rw [hoff']; simpa using hx 0 x rfl
    have hy0 : ys[f.offset]? = some y := by rw [hoff']; simpa using hy 0 y rfl
    have hname := hn f (by simp)
    rw [List.forIn_cons]
    simp only [Sem.run_bind, ne_eq, hname, not_false_eq_true, if_true, rY hti hagg hx0, rY hti hagg hy0, Result.andThen_ok, yN hC hsc hk1]
    have hxs' : ∀ j v, xl[j]? = some v -> xs[i + 1 + j]? = some v := fun j v hj => by have := hx (j + 1) v (by simpa using hj); rwa [show i + (j + 1) = i + 1 + j by omega] at this
    have hys' : ∀ j v, yl[j]? = some v -> ys[i + 1 + j]? = some v := fun j v hj => by have := hy (j + 1) v (by simpa using hj); rwa [show i + (j + 1) = i + 1 + j by omega] at this
    cases he : eqV x y with
    | false =>
     simp only [Bool.not_false, if_true, Sem.run_pure, Result.andThen_ok]
     congr 2
     cases xl <;> cases yl <;> simp [eqVs, he]
    | true =>
     simp only [Bool.not_true, Bool.false_eq_true, if_false, Sem.run_pure, Result.andThen_ok]
     cases xl with
     | nil =>
      cases yl with
      | nil =>
       cases F with
       | nil => simp [eqVs, he]
       | cons f' F' => simp [sameKinds] at hk'
      | cons y' yl' => cases F <;> simp [sameKinds] at hk'
     | cons x' xl' =>
      cases yl with
      | nil => cases F <;> simp [sameKinds] at hk'
      | cons y' yl' =>
       rw [mj hC d w F (i + 1) (x' :: xl') (y' :: yl') (fun f hf => hn f (by simp [hf])) hs' hk' hxs' hys' (by simp)]
       simp [eqVs, he]
theorem qT {C : Ctx} (hC : bS C) {t : TypeId} {xs ys : Array Value} (ht : eqTy C t = true) (hk : eqKinds C t xs.toList ys.toList = true) (w : World) :
  (Op.equal t (.agg xs) (.agg ys)).run C.P w = .ok (eqVs xs.toList ys.toList) w := by
 have hheld := (hC.eq t ht).1
 unfold eqTy at ht
 unfold eqKinds at hk
 split at ht
 ·rename_i f0 fs _ _ _ hti
  rw [hti] at hk
  simp only at hk
  obtain ⟨d, hd, F, rfl, hF, hn⟩ := (hC.ti _ _ hti).under
  have hn' : ∀ f ∈ F.toList, f.name ≠ "_" := fun f hf => by
   have := List.all_eq_true.1 hn f hf
   simpa using this
  have hne : xs.toList ≠ [] := by
   intro e
   rw [e] at hk
   simp [sameKinds] at hk
  rw [<- hF] at ht hk
  obtain ⟨m, hm⟩ : ∃ m, Op.maxDepth = m + 1 + 1 := ⟨9998, rfl⟩
  unfold Op.equal
  rw [hm]
  have key := mj hC (xs := xs) (ys := ys) m w F.toList 0 xs.toList ys.toList hn' ht hk (fun j v hj => by simpa using hj) (fun j v hj => by simpa using hj) hne
  rw [Op.equalIn]
  simp only [Sem.run_bind, av hd, Result.andThen_ok, run_program, hheld, Bool.false_eq_true, if_false]
  rw [<- Array.forIn_toList]
  refine (congrArg (fun r => Result.andThen r _) key).trans ?_
  simp only [Result.andThen_ok]
  cases eqVs xs.toList ys.toList <;> rfl
 ·cases ht
theorem bz {C : Ctx} (hC : bS C) {t : TypeId} {ti : TI} (h : C.ti t = some ti) : ∃ d, C.P.underlying t = some d /\ TKok ti.k d := (hC.ti _ _ h).under
theorem run_eqGuard_agg {C : Ctx} (hC : bS C) {t : TypeId} (ht : eqTy C t = true) {op : BinOp} {X Y : Operand} {xs ys : Array Value} (hop : op = .eql \/ op = .neq) (w : World) : (eqGuard op t X Y (.agg xs) (.agg ys)).run C.P w = .ok () w := by
 have h := (hC.eq t ht).2
 rcases hop with rfl | rfl <;> simp [eqGuard, h]
theorem F8 {C : Ctx} (hC : bS C) {d : Option Tmp} {op : BinOp} {t : TypeId} {x y : Value} {X Y : Operand} {p : Value -> Prop} (h : wBin C d op t x y p) :
  ∃ v, p v /\ ∀ w, ((do eqGuard op t X Y x y; binOp op t x y) : Sem Value).run C.P w = .ok v w := by
 unfold wBin at h
 split at h
 ·rename_i k a k' b
  split at h
  ·rename_i hk
   subst hk
   obtain ⟨v, hv, hr⟩ := AT (P := C.P) (t := t) h
   refine ⟨v, hv, fun w => ?_⟩
   rw [eqGuard_at_int]
   simp [hr]
  ·exact h.elim
 ·rename_i a b
  split at h
  ·refine ⟨_, h.2, fun w => ?_⟩
   rw [eqGuard_at_string]
   have hm : ¬ ((a.size + b.size : Nat) : Int) > IntKind.i64.max := by rw [IntKind.max_i64]; have := h.1; omega
   simp only [Sem.run_bind, Sem.run_pure, Result.andThen_ok, binOp, Op.stringOp]
   rw [if_neg hm]
   rfl
  ·refine ⟨_, h, fun w => ?_⟩
   rw [eqGuard_at_string]
   simp only [Sem.run_bind, Sem.run_pure, Result.andThen_ok, binOp, Op.stringOp, C5]
  ·refine ⟨_, h, fun w => ?_⟩
   rw [eqGuard_at_string]
   simp only [Sem.run_bind, Sem.run_pure, Result.andThen_ok, binOp, Op.stringOp, C5]
  ·exact h.elim
 ·rename_i a b
  split at h
  ·rename_i ht
   obtain ⟨dd, hd, hk⟩ := bz hC ht
   simp only [TKok] at hk
   subst hk
   refine ⟨_, h, fun w => ?_⟩
   rw [eqGuard_at_bool]
   simp only [Sem.run_bind, Sem.run_pure, Result.andThen_ok, binOp, Op.equal]
   obtain ⟨m, hm⟩ : ∃ m, Op.maxDepth = m + 1 := ⟨9999, rfl⟩
   rw [hm, Op.equalIn]
   simp only [Sem.run_bind, av hd, Result.andThen_ok, Sem.run_pure]
  ·rename_i ht
   obtain ⟨dd, hd, hk⟩ := bz hC ht
   simp only [TKok] at hk
   subst hk
   refine ⟨_, h, fun w => ?_⟩
   rw [eqGuard_at_bool]
   simp only [Sem.run_bind, Sem.run_pure, Result.andThen_ok, binOp, Op.equal]
   obtain ⟨m, hm⟩ : ∃ m, Op.maxDepth = m + 1 := ⟨9999, rfl⟩
   rw [hm, Op.equalIn]
   simp only [Sem.run_bind, av hd, Result.andThen_ok, Sem.run_pure]
  ·exact h.elim
 ·rename_i xs ys
  split at h
  ·split at h
   ·rename_i hk
    simp only [Bool.and_eq_true] at hk
    refine ⟨_, h, fun w => ?_⟩
    simp only [Sem.run_bind, run_eqGuard_agg hC hk.1 (.inl rfl), Result.andThen_ok, binOp, qT hC hk.1 hk.2, Sem.run_pure]
   ·exact h.elim
  ·split at h
   ·rename_i hk
    simp only [Bool.and_eq_true] at hk
    refine ⟨_, h, fun w => ?_⟩
    simp only [Sem.run_bind, run_eqGuard_agg hC hk.1 (.inr rfl), Result.andThen_ok, binOp, qT hC hk.1 hk.2, Sem.run_pure]
   ·exact h.elim
  ·exact h.elim
 ·rename_i a
  split at h
  ·rename_i e _ _ _ ht
   obtain ⟨dd, hd, hk⟩ := bz hC ht
   simp only [TKok] at hk
   subst hk
   refine ⟨_, h, fun w => ?_⟩
   rw [eqGuard_at_pointer]
   simp only [Sem.run_bind, Sem.run_pure, Result.andThen_ok, binOp, Op.equal]
   obtain ⟨m, hm⟩ : ∃ m, Op.maxDepth = m + 1 := ⟨9999, rfl⟩
   rw [hm, Op.equalIn]
   cases a <;> simp only [Sem.run_bind, av hd, Result.andThen_ok, Sem.run_pure] <;> rfl
  ·rename_i e _ _ _ ht
   obtain ⟨dd, hd, hk⟩ := bz hC ht
   simp only [TKok] at hk
   subst hk
   refine ⟨_, h, fun w => ?_⟩
   rw [eqGuard_at_pointer]
   simp only [Sem.run_bind, Sem.run_pure, Result.andThen_ok, binOp, Op.equal]
   obtain ⟨m, hm⟩ : ∃ m, Op.maxDepth = m + 1 := ⟨9999, rfl⟩
   rw [hm, Op.equalIn]
   cases a <;> simp only [Sem.run_bind, av hd, Result.andThen_ok, Sem.run_pure] <;> rfl
  ·exact h.elim
 ·rename_i a na ca nb cb
  split at h
  ·rename_i e _ _ _ ht
   obtain ⟨dd, hd, hk⟩ := bz hC ht
   simp only [TKok] at hk
   subst hk
   refine ⟨_, h, fun w => ?_⟩
   rw [eqGuard_at_slice]
   simp only [Sem.run_bind, Sem.run_pure, Result.andThen_ok, binOp, Op.equal]
   obtain ⟨m, hm⟩ : ∃ m, Op.maxDepth = m + 1 := ⟨9999, rfl⟩
   rw [hm, Op.equalIn]
   cases a <;> simp only [Sem.run_bind, av hd, Result.andThen_ok, Sem.run_pure] <;> rfl
  ·rename_i e _ _ _ ht
   obtain ⟨dd, hd, hk⟩ := bz hC ht
   simp only [TKok] at hk
   subst hk
   refine ⟨_, h, fun w => ?_⟩
   rw [eqGuard_at_slice]
   simp only [Sem.run_bind, Sem.run_pure, Result.andThen_ok, binOp, Op.equal]
   obtain ⟨m, hm⟩ : ∃ m, Op.maxDepth = m + 1 := ⟨9999, rfl⟩
   rw [hm, Op.equalIn]
   cases a <;> simp only [Sem.run_bind, av hd, Result.andThen_ok, Sem.run_pure] <;> rfl
  ·exact h.elim
 ·exact h.elim
theorem run_sliceBound {P : Program} {k : IntKind} {i : Int} {y : Nat} {c : BoundsCode} (h0 : 0 <= i) (h1 : i <= y) (w : World) : (Instr.sliceBound (.int k i) y c).run P w = .ok i.toNat w := by
 simp [Instr.sliceBound, asIntOf, h0, h1]
theorem pF {ρ : List Nat} {fr : List SV} {a : Act} (h : cm ρ fr a) {x : Option Operand} {r : Option Int} (hx : optInt fr x = some r) :
  (x = none /\ r = none) \/ ∃ k n, r = some n /\ x.map a.eval = some (.int k n) := by
 unfold optInt at hx
 split at hx
 ·simp only [Option.some.injEq] at hx
  exact .inl ⟨rfl, hx.symm⟩
 ·rename_i x
  split at hx
  ·rename_i k n hv
   simp only [Option.some.injEq] at hx
   exact .inr ⟨k, n, hx.symm, by rw [Option.map_some, kY h hv]⟩
  ·cases hx
theorem oE {P : Program} {b : Bool} {len cap : Nat} {lo hi : Option Value} {l hh : Option Int} (hlo : (lo = none /\ l = none) \/ ∃ k n, l = some n /\ lo = some (.int k n)) (hhi : (hi = none /\ hh = none) \/ ∃ k n, hh = some n /\ hi = some (.int k n))
  (h0 : 0 <= l.getD 0) (h1 : l.getD 0 <= hh.getD (len : Nat)) (h2 : hh.getD (len : Nat) <= (cap : Nat)) (hl : hi = none -> len <= cap) (w : World) :
  (Instr.sliceBounds b len cap lo hi none).run P w = .ok ((l.getD 0).toNat, (hh.getD (len : Nat)).toNat, cap) w := by
 unfold Instr.sliceBounds
 rcases hhi with ⟨rfl, rfl⟩ | ⟨k2, n2, rfl, rfl⟩
 ·rcases hlo with ⟨rfl, rfl⟩ | ⟨k1, n1, rfl, rfl⟩
  ·simp
  ·simp only [Option.getD_some, Option.getD_none] at h0 h1 h2
   simp [run_sliceBound h0 h1]
 ·rcases hlo with ⟨rfl, rfl⟩ | ⟨k1, n1, rfl, rfl⟩
  ·simp only [Option.getD_some, Option.getD_none] at h0 h1 h2
   simp [run_sliceBound h1 h2]
  ·simp only [Option.getD_some] at h0 h1 h2
   have e : ((n2.toNat : Nat) : Int) = n2 := by omega
   simp [run_sliceBound (by omega : 0 <= n2) h2, run_sliceBound (y := n2.toNat) h0 (by omega)]
theorem Dx {C : Ctx} (hC : bS C) {t : TypeId} {x : Value} {lo hi : Option Value} {l hh : Option Int} (hlo : (lo = none /\ l = none) \/ ∃ k n, l = some n /\ lo = some (.int k n)) (hhi : (hi = none /\ hh = none) \/ ∃ k n, hh = some n /\ hi = some (.int k n))
  {p : Value -> Prop} (h : wSlice C t x l hh p) : ∃ v, p v /\ ∀ w, (Instr.sliceAt t x lo hi none).run C.P w = .ok v w := by
 unfold wSlice at h
 split at h
 ·rename_i s _ _ _ ht
  obtain ⟨dd, hd, hk⟩ := bz hC ht
  simp only [TKok] at hk
  subst hk
  obtain ⟨h0, h1, h2, h3⟩ := h
  refine ⟨_, h3, fun w => ?_⟩
  simp [Instr.sliceAt, av hd, Instr.slice, oE hlo hhi h0 h1 h2 (fun _ => Nat.le_refl _)]
 ·rename_i pp n c e _ _ _ ht
  obtain ⟨dd, hd, hk⟩ := bz hC ht
  simp only [TKok] at hk
  subst hk
  split at h
  ·rename_i e' ei he
   obtain ⟨hti, _, _, hcase⟩ := aN hC he
   have hee : e' = e := by
    rcases hcase with ⟨_, _, _, hu⟩ | ⟨_, _, _, _, hu⟩
    ·rw [hd] at hu; simpa using hu.symm
    ·rw [hd] at hu; simp at hu
   subst hee
   obtain ⟨h0, h1, h2, h3⟩ := h
   refine ⟨_, h3, fun w => ?_⟩
   have hl : hi = none -> n <= c := fun e => by
    rcases hhi with ⟨_, rfl⟩ | ⟨_, _, _, rfl⟩
    ·simp at h2; omega
    ·cases e
   simp [Instr.sliceAt, av hd, Instr.slice, oE hlo hhi h0 h1 h2 hl, run_sizeOf hti]
  ·exact h.elim
 ·exact h.elim
theorem BD {C : Ctx} (hC : bS C) {t : TypeId} {x : Value} {lo : Option Value} {l : Option Int} {k1 k2 : IntKind} {h m : Int} (hlo : (lo = none /\ l = none) \/ ∃ k n, l = some n /\ lo = some (.int k n))
  {p : Value -> Prop} (hp : wSlice3 C t x l h m p) : ∃ v, p v /\ ∀ w, (Instr.sliceAt t x lo (some (.int k1 h)) (some (.int k2 m))).run C.P w = .ok v w := by
 unfold wSlice3 at hp
 split at hp
 ·rename_i pp n c e _ _ _ ht
  obtain ⟨dd, hd, hk⟩ := bz hC ht
  simp only [TKok] at hk
  subst hk
  split at hp
  ·rename_i e' ei he
   obtain ⟨hti, _, _, hcase⟩ := aN hC he
   have hee : e' = e := by
    rcases hcase with ⟨_, _, _, hu⟩ | ⟨_, _, _, _, hu⟩
    ·rw [hd] at hu; simpa using hu.symm
    ·rw [hd] at hu; simp at hu
   subst hee
   obtain ⟨h0, h1, h2, h3, h4⟩ := hp
   refine ⟨_, h4, fun w => ?_⟩
   have em : ((m.toNat : Nat) : Int) = m := by omega
   have eh : ((h.toNat : Nat) : Int) = h := by omega
   rcases hlo with ⟨rfl, rfl⟩ | ⟨k3, n3, rfl, rfl⟩
   ·simp only [Option.getD_none] at h0 h1
    simp [Instr.sliceAt, av hd, Instr.slice, Instr.sliceBounds, run_sliceBound (by omega : 0 <= m) h3, run_sliceBound (y := m.toNat) h1 (by omega), run_sizeOf hti]
   ·simp only [Option.getD_some] at h0 h1
    simp [Instr.sliceAt, av hd, Instr.slice, Instr.sliceBounds, run_sliceBound (by omega : 0 <= m) h3, run_sliceBound (y := m.toNat) (by omega : 0 <= h) (by omega), run_sliceBound (y := h.toNat) h0 (by omega), run_sizeOf hti]
  ·exact hp.elim
 ·exact hp.elim
theorem DU {C : Ctx} (hC : bS C) {t : TypeId} {x : Value} {k : IntKind} {i : Int} {p : Value -> Prop} (h : wIndex C t x i p) : ∃ v, p v /\ ∀ w, (Instr.index t x (.int k i)).run C.P w = .ok v w := by
 unfold wIndex at h
 split at h
 ·rename_i s _ _ _ ht
  obtain ⟨dd, hd, hk⟩ := bz hC ht
  simp only [TKok] at hk
  subst hk
  obtain ⟨h0, c, hc, h1⟩ := h
  refine ⟨_, h1, fun w => ?_⟩
  have hg : s[i.toNat]? = some c := by
   obtain ⟨hlt, hx⟩ := List.getElem?_eq_some_iff.1 hc
   have hlt' : i.toNat < s.size := hlt
   rw [getElem?_pos s i.toNat hlt']
   exact congrArg some hx
  simp [Instr.index, av hd, asIntOf, h0, hg]
 ·rename_i cs n e _ _ _ ht
  obtain ⟨dd, hd, hk⟩ := bz hC ht
  simp only [TKok] at hk
  subst hk
  split at h
  ·rename_i e' ei he
   obtain ⟨hti, hz, _, hcase⟩ := aN hC he
   have hee : e' = e := by
    rcases hcase with ⟨_, _, _, hu⟩ | ⟨_, _, _, _, hu⟩
    ·rw [hd] at hu; simp at hu
    ·rw [hd] at hu; simp at hu; exact hu.2.symm
   subst hee
   obtain ⟨h0, h1, xs, hx, h2⟩ := h
   by_cases ha : ei.isAgg = true
   ·rw [if_pos ha] at h2
    refine ⟨_, h2, fun w => ?_⟩
    have := tM hti (w := w) hx hz
    simp [Instr.index, av hd, asIntOf, h0, h1, run_sizeOf hti, this, ha]
   ·rw [if_neg ha] at h2
    obtain ⟨y, rfl, h2⟩ := h2
    refine ⟨_, h2, fun w => ?_⟩
    have := tM hti (w := w) hx hz
    simp [Instr.index, av hd, asIntOf, h0, h1, run_sizeOf hti, this, ha]
  ·exact h.elim
 ·exact h.elim
theorem yV (off : Nat) : ∀ (l : List Value) (s : Nat) (acc : Array Value) (j : Nat), off + s + l.length <= acc.size ->
  ((l.zipIdx s).foldl (fun cs (x : Value × Nat) => cs.setIfInBounds (off + x.2) x.1) acc).size = acc.size /\
  ((l.zipIdx s).foldl (fun cs (x : Value × Nat) => cs.setIfInBounds (off + x.2) x.1) acc)[j]? = if off + s <= j /\ j < off + s + l.length then l[j - (off + s)]? else acc[j]?
 | [], s, acc, j, _ => by simp; omega
 | x :: l, s, acc, j, h => by
  simp only [List.zipIdx_cons, List.foldl_cons]
  simp only [List.length_cons] at h
  obtain ⟨h1, h2⟩ := yV off l (s + 1) (acc.setIfInBounds (off + s) x) j (by simp; omega)
  refine ⟨by rw [h1]; simp, ?_⟩
  rw [h2]
  by_cases hj : off + (s + 1) <= j /\ j < off + (s + 1) + l.length
  ·rw [if_pos hj, if_pos (by simp; omega), show j - (off + s) = (j - (off + (s + 1))) + 1 by omega, List.getElem?_cons_succ]
  ·rw [if_neg hj]
   by_cases he : j = off + s
   ·subst he
    rw [if_pos (by simp)]
    rw [Array.getElem?_setIfInBounds_self_of_lt (by omega), Nat.sub_self]
    rfl
   ·rw [if_neg (by simp; omega), Array.getElem?_setIfInBounds_ne (by omega)]
theorem GD {cells : List Value} {off : Nat} {ys r : List Value} (h : putN cells off ys = some r) (hne : off + ys.length <= cells.length) :
  ys.toArray.zipIdx.foldl (fun cs (c, j) => cs.setIfInBounds (off + j) c) cells.toArray = r.toArray := by
 obtain ⟨h1, h2, h3⟩ := mD cells off ys r h
 have e : ys.toArray.zipIdx.foldl (fun cs (x : Value × Nat) => cs.setIfInBounds (off + x.2) x.1) cells.toArray = (ys.zipIdx 0).foldl (fun cs (x : Value × Nat) => cs.setIfInBounds (off + x.2) x.1) cells.toArray := by
  rw [<- Array.foldl_toList]
  congr 1
  simp
 refine (show _ = _ from e).trans ?_
 apply Array.ext'
 apply List.ext_getElem?
 intro j
 have := (yV off ys 0 cells.toArray j (by simpa using hne)).2
 simp only [Nat.add_zero] at this
 rw [Array.getElem?_toList, this, h3]
 simp
theorem qf {C : Ctx} (hC : bS C) {t : TypeId} {place : Nat -> Option (Nat × Nat)} (hpl : ∀ i off ti, (match C.ti t with
   | some { k := .struct _, .. } => fieldAtN C t i
   | some { k := .array _ _, .. } | some { k := .slice _, .. } => (elemTI C t).map fun (e : TypeId × TI) => (i * e.2.size, e.2)
   | _ => none) = some (off, ti) -> place i = some (off, ti.size)) : ∀ (l : List (Nat × Value)) (cells r : List Value), fillN C t cells l = some r -> Instr.fill place cells.toArray l = some r.toArray
 | [], cells, r, h => by
  simp only [fillN, Option.some.injEq] at h
  simp [Instr.fill, h]
 | (i, y) :: l, cells, r, h => by
  simp only [fillN] at h
  split at h
  ·rename_i off ti hm
   split at h
   ·rename_i hz
    have hz' := Nat.eq_of_beq_eq_true hz
    split at h
    ·rename_i cells' hp
     have hplace := hpl i off ti hm
     have hsz : y.cells.size = ti.size := by rw [<- hz']; simp
     obtain ⟨_, h2, _⟩ := mD _ _ _ _ hp
     have hpos : ti.size ≠ 0 := by
      split at hm
      ·unfold fieldAtN at hm
       split at hm
       ·split at hm
        ·split at hm
         ·split at hm
          ·cases hm
          ·rename_i hnz
           simp only [Option.some.injEq, Prod.mk.injEq] at hm
           obtain ⟨_, rfl⟩ := hm
           intro e
           rw [e] at hnz
           exact hnz rfl
         ·cases hm
        ·cases hm
       ·cases hm
      ·cases he : elemTI C t with
       | none => rw [he] at hm; cases hm
       | some e =>
        rw [he] at hm
        simp only [Option.map_some, Option.some.injEq, Prod.mk.injEq] at hm
        obtain ⟨_, rfl⟩ := hm
        exact (aN hC (e := e.1) (ei := e.2) he).2.1
      ·cases he : elemTI C t with
       | none => rw [he] at hm; cases hm
       | some e =>
        rw [he] at hm
        simp only [Option.map_some, Option.some.injEq, Prod.mk.injEq] at hm
        obtain ⟨_, rfl⟩ := hm
        exact (aN hC (e := e.1) (ei := e.2) he).2.1
      ·cases hm
     have hne : y.cells.toList ≠ [] := fun e => hpos (by rw [<- hz', e]; rfl)
     rw [if_neg hne] at h2
     have hle : off + y.cells.toList.length <= cells.length := by omega
     have hle' : off + y.cells.size <= cells.length := by simpa using hle
     simp only [Instr.fill, hplace, hsz]
     rw [hsz] at hle'
     simp only [List.size_toArray]
     rw [if_neg (by simp; omega)]
     have := GD hp hle
     rw [Array.toArray_toList] at this
     rw [this]
     exact qf hC hpl l cells' r h
    ·cases h
   ·cases h
  ·cases h
def cls (ρ : List Nat) (w : World) : Eff -> World -> Prop
 | .pure, _ => True
 | .mO l, w' => ∀ b, ρ[l]? = some b -> w'.heap[b]? = w.heap[b]?
 | .uM b o cs, w' => Rd w' b o cs
 | _, _ => False
def aR (P : Program) (ρ : List Nat) (ls : List Loc) (u w : World) (a : Act) (o : Oper) (k : KO) : Prop :=
 ∃ s v e, k s ls u e /\ s.holds ρ v /\ cls ρ w e w /\ (∀ b q cs, e = .uM b q cs -> Rd u b q cs) /\ ∀ w', cls ρ w e w' -> (execOp a.eval o).run P w' = .ok (.value v) w'
theorem aR.pure {P : Program} {ρ : List Nat} {ls : List Loc} {u w : World} {a : Act} {o : Oper} {k : KO} (s : SV) (v : Value) (h : k s ls u .pure) (hs : s.holds ρ v) (hr : ∀ w', (execOp a.eval o).run P w' = .ok (.value v) w') : aR P ρ ls u w a o k :=
 ⟨s, v, .pure, h, hs, trivial, (by intro b q cs e; cases e), fun w' _ => hr w'⟩
theorem nM {c : CK} {p : Value -> Prop} (h : exCK c p) : ∃ y, p y /\ plain y = true := by
 cases c <;> simp only [exCK] at h
 ·obtain ⟨n, h⟩ := h; exact ⟨_, h, rfl⟩
 ·obtain ⟨n, h⟩ := h; exact ⟨_, h, rfl⟩
 ·obtain ⟨n, h⟩ := h; exact ⟨_, h, rfl⟩
 ·obtain ⟨a, n, c, h⟩ := h; exact ⟨_, h, rfl⟩
 ·obtain ⟨b, o, h⟩ := h; exact ⟨_, h, rfl⟩
 ·obtain ⟨b, o, q, h⟩ := h; exact ⟨_, h, rfl⟩
theorem rL : ∀ {l : List CK} {p : List Value -> Prop}, Gx l p -> ∃ y, p y
 | [], _, h => ⟨_, h⟩
 | c :: l, p, h => by
  obtain ⟨x, h, _⟩ := nM h
  obtain ⟨y, h⟩ := rL h
  exact ⟨_, h⟩
theorem nr {T : List TI} {t : TypeId} {ti : TI} {p : Value -> Prop} (ht : tiOf T t = some ti) (h : qC T t p) : ∃ y, p y /\ Shaped ti y := by
 unfold qC at h
 rw [ht] at h
 simp only at h
 unfold Shaped TI.isAgg
 split at h
 ·rename_i c hk
  rw [hk]
  obtain ⟨y, h, hp⟩ := nM h
  exact ⟨y, h, by simpa using hp⟩
 ·rename_i c hk
  rw [hk]
  obtain ⟨y, h, hp⟩ := nM h
  exact ⟨y, h, by simpa using hp⟩
 ·rename_i c hk
  rw [hk]
  obtain ⟨y, h, hp⟩ := nM h
  exact ⟨y, h, by simpa using hp⟩
 ·rename_i fs hk
  rw [hk]
  split at h
  ·obtain ⟨l, h⟩ := h; exact ⟨_, h, by simp⟩
  ·obtain ⟨l, h⟩ := rL h; exact ⟨_, h, by simp⟩
 ·rename_i n e hk
  rw [hk]
  split at h
  ·obtain ⟨l, h⟩ := h; exact ⟨_, h, by simp⟩
  ·obtain ⟨l, h⟩ := rL h; exact ⟨_, h, by simp⟩
 ·exact h.elim
theorem xC {T : List TI} {t : TypeId} {p : Value -> Prop} (h : qC T t p) : ∃ ti, tiOf T t = some ti := by
 unfold qC at h
 split at h
 ·rename_i ti hti; exact ⟨ti, hti⟩
 ·exact h.elim
section
variable {C : Ctx} {ρ : List Nat} {fr : List SV} {ls : List Loc} {u0 w0 u w : World} {a : Act}
theorem zC (hC : bS C) (hm : MS u0 w0 ρ ls u w) (hf : cm ρ fr a) {dst : Option Tmp} {t : TypeId} {x : Operand} {ty : TypeId} {pos : String} {after : Array Edge} {g : Option (Nat × Bool)} {k : KO}
  (h : wLoad C t (ev fr x) ls u k) : aR C.P ρ ls u w a ⟨dst, .load t x, ty, pos, after, g⟩ k := by
 have run : ∀ (y : Value) (w' : World), (Instr.loadAt t (a.eval x)).run C.P w' = .ok y w' -> (execOp a.eval ⟨dst, .load t x, ty, pos, after, g⟩).run C.P w' = .ok (.value y) w' := fun y w' hr => by
  simp only [execOp, Sem.run_bind, hr, Result.andThen_ok, Sem.run_pure]
 unfold wLoad at h
 split at h
 ·rename_i i off hev
  obtain ⟨b, hb, hx⟩ := BK hf hev
  split at h
  ·rename_i l ti hl hti
   have hti' := hC.ti t ti hti
   obtain ⟨hub, hwb⟩ := hm.own i l b hl hb
   have fin : ∀ (y : Value), Shaped ti y -> takeN l.cells off ti.size = some y.cells.toList -> k (.v y) ls u (.mO i) -> aR C.P ρ ls u w a ⟨dst, .load t x, ty, pos, after, g⟩ k := fun y hs ht hk => by
    refine ⟨.v y, y, .mO i, hk, rfl, fun _ _ => rfl, (by intro b q cs e; cases e), fun w' hc => run y w' ?_⟩
    have hw' : w'.heap[b]? = some (.cells l.cells.toArray l.ty (0, 0)) := by rw [hc b hb, hwb]
    rw [hx]
    exact xx hti' hs (lb _ _ _ _ ht).1.symm (xo hw' ht)
   split at h
   ·split at h
    ·rename_i hbig
     simp only [Bool.and_eq_true] at hbig
     split at h
     ·exact fin (.agg l.cells.toArray) (by unfold Shaped; rw [if_pos hbig.1]; exact ⟨_, rfl⟩) h.1 h.2
     ·obtain ⟨xs, h1, h2⟩ := h
      exact fin (.agg xs.toArray) (by unfold Shaped; rw [if_pos hbig.1]; exact ⟨_, rfl⟩) h1 h2
    ·obtain ⟨y, ⟨h1, h2⟩, hs⟩ := nr hti h
     exact fin y hs h1 h2
   ·split at h
    ·rename_i cs hcs
     split at h
     ·rename_i hagg
      exact fin _ (by unfold Shaped; rw [if_pos hagg]; exact ⟨_, rfl⟩) (by simpa [Value.cells] using hcs) h
     ·rename_i hagg
      split at h
      ·rename_i c
       refine ⟨.v c, c, .mO i, h, rfl, fun _ _ => rfl, (by intro b q cs e; cases e), fun w' hc => run c w' ?_⟩
       have hw' : w'.heap[b]? = some (.cells l.cells.toArray l.ty (0, 0)) := by rw [hc b hb, hwb]
       have hr := (xo hw' hcs).1
       rw [hx]
       simp [Instr.loadAt, Instr.sureAddr, loadVar, kD hti', hagg, run_load, hr]
      ·exact h.elim
    ·exact h.elim
  ·exact h.elim
 ·rename_i b o hev
  have hx := kY hf hev
  obtain ⟨ti, hti⟩ := xC h
  obtain ⟨y, ⟨h1, h2, h3⟩, hs⟩ := nr hti h
  have hti2 : C.ti t = some ti := hti
  rw [hti2] at h1
  simp only at h1
  refine ⟨.v y, y, .uM b o y.cells.toList, h3, rfl, hm.le.rd h2, (by intro b' q' cs' e; cases e; exact h2), fun w' hc => run y w' ?_⟩
  rw [hx]
  exact xx (hC.ti t ti hti2) hs h1 hc
 ·exact h.elim
theorem DB (hC : bS C) (hf : cm ρ fr a) {dst : Option Tmp} {t : TypeId} {x : Operand} {f : Nat} {ty : TypeId} {pos : String} {after : Array Edge} {g : Option (Nat × Bool)} {k : KO}
  (h : wOp C ⟨dst, .field t x f, ty, pos, after, g⟩ fr ls u k) : aR C.P ρ ls u w a ⟨dst, .field t x f, ty, pos, after, g⟩ k := by
 simp only [wOp] at h
 split at h
 ·rename_i off ti cs hfa hev
  have hx := kY hf hev
  obtain ⟨F, ft, hd, hff, rfl, hti, hz⟩ := lW hC hfa
  have run : ∀ (y : Value) (w' : World), (part ft.type cs ft.offset).run C.P w' = .ok y w' -> (execOp a.eval ⟨dst, .field t x f, ty, pos, after, g⟩).run C.P w' = .ok (.value y) w' := fun y w' hr => by
   simp [execOp, hx, Instr.field, av hd, hff, asAgg, hr]
  split at h
  ·rename_i hbig
   have hty : AN C t f = ft.type := by
    unfold AN
    unfold fieldAtN at hfa
    split at hfa
    ·rename_i fs _ _ _ ht
     obtain ⟨d, hd', F', rfl, hF', _⟩ := (hC.ti _ _ ht).under
     rw [hd] at hd'
     simp only [Option.some.injEq, TypeDesc.struct.injEq] at hd'
     subst hd'
     rw [<- hF', List.getElem?_map, Array.getElem?_toList, hff]
     rfl
    ·cases hfa
   rw [hty] at h
   obtain ⟨ti', hti'⟩ := xC h
   obtain ⟨y, ⟨h1, h2⟩, hs⟩ := nr hti' h
   have hti2 := hC.ti _ _ (show C.ti ft.type = some ti' from hti')
   have hp := fun w' => tM hti (w := w') h1 hz
   refine aR.pure (.v y) y h2 rfl fun w' => run y w' ?_
   rw [hp w']
   have hagg : ti.isAgg = ti'.isAgg := by
    have e1 := kD hti w'
    have e2 := kD hti2 w'
    rw [e1] at e2
    simpa using e2
   unfold Shaped at hs
   by_cases ha : ti'.isAgg = true
   ·rw [if_pos ha] at hs
    obtain ⟨l, rfl⟩ := hs
    simp [hagg, ha, Value.cells]
   ·rw [if_neg ha] at hs
    rw [vm hs]
    simp [hagg, ha]
  ·split at h
   ·rename_i xs hxs
    have hp := fun w' => tM hti (w := w') hxs hz
    split at h
    ·rename_i hagg
     refine aR.pure _ _ h rfl fun w' => run _ w' ?_
     rw [hp w', if_pos hagg]
    ·rename_i hagg
     split at h
     ·refine aR.pure _ _ h rfl fun w' => run _ w' ?_
      rw [hp w', if_neg hagg]
      rfl
     ·exact h.elim
   ·exact h.elim
 ·exact h.elim
theorem wV (hC : bS C) (hf : cm ρ fr a) {dst : Option Tmp} {t : TypeId} {x : Operand} {f : Nat} {ty : TypeId} {pos : String} {after : Array Edge} {g : Option (Nat × Bool)} {k : KO}
  (h : wOp C ⟨dst, .fieldAddr t x f, ty, pos, after, g⟩ fr ls u k) : aR C.P ρ ls u w a ⟨dst, .fieldAddr t x f, ty, pos, after, g⟩ k := by
 simp only [wOp] at h
 split at h
 ·rename_i off ti b o hfa hev
  have hx := kY hf hev
  exact aR.pure _ _ h rfl fun w' => by simp [execOp, hx, vt hC hfa]
 ·rename_i off ti i p hfa hev
  obtain ⟨b, hb, hx⟩ := BK hf hev
  exact aR.pure _ _ h ⟨b, hb, rfl⟩ fun w' => by simp [execOp, hx, vt hC hfa]
 ·exact h.elim
theorem xH (hC : bS C) (hf : cm ρ fr a) {dst : Option Tmp} {t : TypeId} {x i : Operand} {ty : TypeId} {pos : String} {after : Array Edge} {g : Option (Nat × Bool)} {k : KO}
  (h : wOp C ⟨dst, .indexAddr t x i, ty, pos, after, g⟩ fr ls u k) : aR C.P ρ ls u w a ⟨dst, .indexAddr t x i, ty, pos, after, g⟩ k := by
 simp only [wOp] at h
 split at h
 ·rename_i ik n hi
  have hi' := kY hf hi
  unfold wIndexAddr at h
  split at h
  ·rename_i e' _ _ _ e ti p len c ht he hev
   have hx := kY hf hev
   obtain ⟨dd, hd, hk⟩ := bz hC ht
   simp only [TKok] at hk
   subst hk
   obtain ⟨hti, hz, _, hcase⟩ := aN hC he
   have hee : e = e' := by
    rcases hcase with ⟨_, _, _, hu⟩ | ⟨_, _, _, _, hu⟩
    ·rw [hd] at hu; simpa using hu.symm
    ·rw [hd] at hu; simp at hu
   subst hee
   obtain ⟨b, o, rfl, h0, h1, h2⟩ := h
   exact aR.pure _ _ h2 rfl fun w' => by simp [execOp, hx, hi', wR hti hd w' b o len c ik n h0 h1]
  ·rename_i len e' _ _ _ e ti l off ht he hev
   obtain ⟨b, hb, hx⟩ := BK hf hev
   obtain ⟨dd, hd, hk⟩ := bz hC ht
   simp only [TKok] at hk
   subst hk
   obtain ⟨hti, hz, _, hcase⟩ := aN hC he
   have hee : e = e' := by
    rcases hcase with ⟨_, _, _, hu⟩ | ⟨_, _, _, _, hu⟩
    ·rw [hd] at hu; simp at hu
    ·rw [hd] at hu; simp at hu; exact hu.2.symm
   subst hee
   obtain ⟨h0, h1, h2⟩ := h
   exact aR.pure _ _ h2 ⟨b, hb, rfl⟩ fun w' => by simp [execOp, hx, hi', ov hti hd w' b off ik n h0 h1]
  ·rename_i len e' _ _ _ e ti b off ht he hev
   have hx := kY hf hev
   obtain ⟨dd, hd, hk⟩ := bz hC ht
   simp only [TKok] at hk
   subst hk
   obtain ⟨hti, hz, _, hcase⟩ := aN hC he
   have hee : e = e' := by
    rcases hcase with ⟨_, _, _, hu⟩ | ⟨_, _, _, _, hu⟩
    ·rw [hd] at hu; simp at hu
    ·rw [hd] at hu; simp at hu; exact hu.2.symm
   subst hee
   obtain ⟨h0, h1, h2⟩ := h
   exact aR.pure _ _ h2 rfl fun w' => by simp [execOp, hx, hi', ov hti hd w' b off ik n h0 h1]
  ·exact h.elim
 ·exact h.elim
theorem DF (hC : bS C) (hf : cm ρ fr a) {dst : Option Tmp} {t : TypeId} {parts : Array (Nat × Operand)} {ty : TypeId} {pos : String} {after : Array Edge} {g : Option (Nat × Bool)} {k : KO}
  (h : wOp C ⟨dst, .build t parts, ty, pos, after, g⟩ fr ls u k) : aR C.P ρ ls u w a ⟨dst, .build t parts, ty, pos, after, g⟩ k := by
 simp only [wOp] at h
 split at h
 ·rename_i ti l ht hl
  have hparts := pO hf parts.toList l hl
  have hpl : (parts.map fun (i, x) => (i, a.eval x)).toList = l := by rw [<- hparts]; simp
  have hti := hC.ti _ _ ht
  split at h
  ·rename_i hbd
   split at h
   ·rename_i cells hfill
    unfold buildable at hbd
    obtain ⟨dd, hd, hk⟩ := hti.under
    split at hbd
    ·rename_i fs hks
     rw [hks] at hk
     obtain ⟨F, rfl, hF, _⟩ := hk
     have hz := hti.zero
     rw [hks] at hz
     obtain ⟨inf, z, hinf, hzz, hzc⟩ := hz
     refine aR.pure _ _ h rfl fun w' => ?_
     have hplaces : ∀ (G : List Field), (∀ f ∈ G, (C.ti f.type).isSome = true) -> (G.mapM fun f => (do pure (f.offset, <- sizeOf f.type) : Sem (Nat × Nat))).run C.P w' = .ok (G.map fun f => (f.offset, ((C.ti f.type).map (·.size)).getD 0)) w' := by
      intro G
      induction G with
      | nil => intro _; simp
      | cons f G ih =>
       intro hall
       obtain ⟨fi, hfi⟩ := Option.isSome_iff_exists.1 (hall f (by simp))
       simp only [List.mapM_cons, Sem.run_bind, run_sizeOf (hC.ti _ _ hfi), Result.andThen_ok, Sem.run_pure, ih (fun f' hf' => hall f' (by simp [hf'])), List.map_cons, hfi, Option.map_some, Option.getD_some]
     have hall : ∀ f ∈ F.toList, (C.ti f.type).isSome = true := by
      intro f hff
      have := List.all_eq_true.1 hbd (f.offset, f.type) (by rw [<- hF]; exact List.mem_map.2 ⟨f, hff, rfl⟩)
      simpa using this
     have hmap : (F.mapM fun f => (do pure (f.offset, <- sizeOf f.type) : Sem (Nat × Nat))).run C.P w' = .ok (F.toList.map fun f => (f.offset, ((C.ti f.type).map (·.size)).getD 0)).toArray w' := by
      rw [Array.mapM_eq_mapM_toList]
      simp only [Sem.run_map, hplaces F.toList hall, Result.andThen_ok]
     have hfs := qf hC (t := t) (place := fun i => ((F.toList.map fun f => (f.offset, ((C.ti f.type).map (·.size)).getD 0)).toArray)[i]?) (fun i off fi hm => by
      rw [ht] at hm
      obtain ⟨tk, sz, bt, zz⟩ := ti
      simp only at hks
      subst hks
      simp only at hm
      have hm0 := hm
      obtain ⟨F', ft, hd', hff, rfl, hti', _⟩ := lW hC hm
      rw [hd] at hd'
      simp only [Option.some.injEq, TypeDesc.struct.injEq] at hd'
      subst hd'
      have : C.ti ft.type = some fi := by
       unfold fieldAtN at hm0
       rw [ht] at hm0
       simp only at hm0
       rw [<- hF, List.getElem?_map, Array.getElem?_toList, hff] at hm0
       simp only [Option.map_some] at hm0
       split at hm0
       ·split at hm0
        ·cases hm0
        ·simp only [Option.some.injEq, Prod.mk.injEq] at hm0
         rename_i hh _
         rw [hh, hm0.2]
       ·cases hm0
      simp only [List.getElem?_toArray, List.getElem?_map, Array.getElem?_toList, hff, Option.map_some, this, Option.getD_some]) l ti.zero cells hfill
     simp only [execOp, Instr.build, Sem.run_bind, zeroValue, typeInfo, run_program, hinf, Sem.run_pure, Result.andThen_ok, hzz, av hd, hmap, hzc]
     rw [hpl, hfs]
     rfl
    ·rename_i n e hks
     rw [hks] at hk
     simp only [TKok] at hk
     subst hk
     have hz := hti.zero
     rw [hks] at hz
     obtain ⟨inf, z, hinf, hzz, hzc⟩ := hz
     obtain ⟨ei, hei⟩ := Option.isSome_iff_exists.1 hbd
     refine aR.pure _ _ h rfl fun w' => ?_
     have hfs := qf hC (t := t) (place := fun i => some (i * ei.size, ei.size)) (fun i off fi hm => by
      rw [ht] at hm
      obtain ⟨tk, sz, bt, zz⟩ := ti
      simp only at hks
      subst hks
      simp only at hm
      unfold elemTI at hm
      rw [ht] at hm
      simp only [hei] at hm
      split at hm
      ·cases hm
      split at hm
      ·cases hm
      ·simp only [Option.map_some, Option.some.injEq, Prod.mk.injEq] at hm
       rw [<- hm.1, <- hm.2]) l ti.zero cells hfill
     simp only [execOp, Instr.build, Sem.run_bind, zeroValue, typeInfo, run_program, hinf, Sem.run_pure, Result.andThen_ok, hzz, av hd, run_sizeOf (hC.ti _ _ hei), hzc]
     rw [hpl, hfs]
     rfl
    ·cases hbd
   ·exact h.elim
  ·exact h.elim
 ·exact h.elim
end
section
variable {C : Ctx} {ρ : List Nat} {fr : List SV} {ls : List Loc} {u0 w0 u w : World} {a : Act}
theorem read_builtin (hC : bS C) (hf : cm ρ fr a) {dst : Option Tmp} {b : Builtin} {xs : Array Operand} {ats : Array TypeId} {ty : TypeId} {pos : String} {after : Array Edge} {g : Option (Nat × Bool)} {k : KO}
  (hb : b = .len \/ b = .max \/ b = .min) {args : List Value} (hargs : asVs fr xs.toList = some args) (h : wBuiltin C b ats.toList args u fun y u e => k (.v y) ls u e) :
  aR C.P ρ ls u w a ⟨dst, .call ⟨.builtin b, xs, ats⟩, ty, pos, after, g⟩ k := by
 have hxs : xs.map a.eval = args.toArray := by
  have := kz hf _ _ hargs
  apply Array.ext'
  simp [this]
 have run : ∀ (y : Value) (w' : World), (builtin b ats ty (xs.map fun | .const _ => true | _ => false) args.toArray).run C.P w' = .ok (.value y) w' -> (execOp a.eval ⟨dst, .call ⟨.builtin b, xs, ats⟩, ty, pos, after, g⟩).run C.P w' = .ok (.value y) w' := fun y w' hr => by
  rw [BigFrame.execOp_builtin, hxs]
  exact hr
 obtain ⟨atl⟩ := ats
 simp only at h
 rcases hb with rfl | rfl | rfl
 ·rcases atl with _ | ⟨t, _ | ⟨t', atl⟩⟩ <;> rcases args with _ | ⟨x, _ | ⟨x', args⟩⟩ <;> simp only [wBuiltin, wLen] at h
  split at h
  ·rename_i _ _ _ s ht
   obtain ⟨dd, hd, hk⟩ := bz hC ht
   simp only [TKok] at hk
   subst hk
   exact aR.pure _ _ h rfl fun w' => run _ w' (by simp [BigFrame.builtin_len, Builtin.len_, av hd, goInt])
  ·rename_i e _ _ _ p n c ht
   obtain ⟨dd, hd, hk⟩ := bz hC ht
   simp only [TKok] at hk
   subst hk
   exact aR.pure _ _ h rfl fun w' => run _ w' (by simp [BigFrame.builtin_len, Builtin.len_, av hd, goInt])
  ·rename_i n e _ _ _ ht
   obtain ⟨dd, hd, hk⟩ := bz hC ht
   simp only [TKok] at hk
   subst hk
   exact aR.pure _ _ h rfl fun w' => run _ w' (by simp [BigFrame.builtin_len, Builtin.len_, av hd, goInt])
  ·exact h.elim
 ·rcases args with _ | ⟨x, _ | ⟨y, _ | ⟨z, args⟩⟩⟩ <;> try (simp only [wBuiltin, wMax] at h)
  cases x <;> try (simp only at h)
  cases y <;> try (simp only at h)
  rename_i i x j y
  split at h
  ·rename_i hij
   subst hij
   refine aR.pure _ _ h rfl fun w' => run _ w' ?_
   have : max x y = if y > x then y else x := by rw [Int.max_def]; split <;> split <;> omega
   simp [BigFrame.builtin_max, Builtin.max_, Builtin.max2, this]
  ·exact h.elim
 ·rcases args with _ | ⟨x, _ | ⟨y, _ | ⟨z, args⟩⟩⟩ <;> try (simp only [wBuiltin, Ik] at h)
  cases x <;> try (simp only at h)
  cases y <;> try (simp only at h)
  rename_i i x j y
  split at h
  ·rename_i hij
   subst hij
   refine aR.pure _ _ h rfl fun w' => run _ w' ?_
   have : min x y = if y < x then y else x := by rw [Int.min_def]; split <;> split <;> omega
   simp [BigFrame.builtin_min, Builtin.min_, Builtin.min2, this]
  ·exact h.elim
theorem Bh (hC : bS C) (hm : MS u0 w0 ρ ls u w) (hf : cm ρ fr a) {o : Oper} {k : KO} (hr : isRead C o = true) (h : wOp C o fr ls u k) : aR C.P ρ ls u w a o k := by
 obtain ⟨dst, op, ty, pos, after, g⟩ := o
 cases op <;> simp only [isRead, Bool.false_eq_true] at hr
 case move x => simp only [wOp] at h; exact aR.pure _ _ h (mM hf x) fun w' => by simp [execOp]
 case assign x => simp only [wOp] at h; exact aR.pure _ _ h (mM hf x) fun w' => by simp [execOp]
 case pick c x y =>
  simp only [wOp] at h
  split at h
  ·rename_i hc
   exact aR.pure _ _ h (mM hf x) fun w' => by simp [execOp, ym hf hc, asBool]
  ·rename_i hc
   exact aR.pure _ _ h (mM hf y) fun w' => by simp [execOp, ym hf hc, asBool]
  ·rename_i t hc
   split at h
   ·rename_i bx b_y hx hy
    refine aR.pure _ _ h rfl fun w' => ?_
    cases t <;> simp [execOp, kY hf hc, asBool, cd hf hx, cd hf hy]
   ·exact h.elim
  ·exact h.elim
 case build t parts => exact DF hC hf h
 case load t x => exact zC hC hm hf h
 case nilCheck x =>
  simp only [wOp] at h
  split at h
  ·rename_i ad hx
   exact aR.pure _ _ h rfl fun w' => by simp [execOp, kY hf hx]
  ·rename_i i off hx
   obtain ⟨b, hb, hx⟩ := BK hf hx
   exact aR.pure _ _ h ⟨b, hb, rfl⟩ fun w' => by simp [execOp, hx]
  ·rename_i f x y hx
   exact aR.pure _ _ h rfl fun w' => by simp [execOp, kY hf hx]
  ·exact h.elim
 case binOp op t x y yt =>
  simp only [wOp] at h
  split at h
  ·rename_i vx vy hx hy
   obtain ⟨v, hv, hrun⟩ := F8 hC (X := x) (Y := y) h
   refine aR.pure _ v hv rfl fun w' => ?_
   have := hrun w'
   simp only [execOp, cd hf hx, cd hf hy]
   rw [Sem.run_bind, this]
   rfl
  ·exact h.elim
 case unOp op t x =>
  simp only [wOp] at h
  split at h
  ·rename_i b hx
   exact aR.pure _ (.bool (!b)) h rfl fun w' => by simp [execOp, ym hf hx, Op.unary]
  ·rename_i b hx
   exact aR.pure _ (.bool (!b)) h rfl fun w' => by simp [execOp, kY hf hx, Op.unary]
  ·rename_i j n hx
   split at h
   ·exact aR.pure _ (.int j (j.wrap (0 - n))) h rfl fun w' => by simp [execOp, kY hf hx, Op.unary, Op.intArith]
   ·exact aR.pure _ (.int j (-n)) h.2 rfl fun w' => by simp [execOp, kY hf hx, Op.unary, Op.intArith, qb h.1]
  ·exact h.elim
 case convert s d x =>
  simp only [wOp] at h
  split at hr
  ·rename_i k1 _ _ _ k2 _ _ _ hs hd
   split at h
   ·rename_i y hy
    unfold wConvert at h
    rw [hs, hd] at h
    obtain ⟨d1, hd1, hk1⟩ := bz hC hs
    obtain ⟨d2, hd2, hk2⟩ := bz hC hd
    simp only [TKok] at hk1 hk2
    subst hk1 hk2
    cases y <;> try (exact h.elim)
    rename_i j n
    simp only at h
    split at h
    ·exact aR.pure _ _ h rfl fun w' => by simp [execOp, cd hf hy, convert, av hd1, av hd2, Conv.intToInt]
    ·exact aR.pure _ _ h.2 rfl fun w' => by simp [execOp, cd hf hy, convert, av hd1, av hd2, Conv.intToInt, qb h.1]
   ·exact h.elim
  ·cases hr
 case makeFunc fn first captured =>
  simp only [wOp] at h
  split at h
  ·rename_i x y hx hy
   refine aR.pure _ _ h rfl fun w' => ?_
   have e1 : first.map a.eval = x.toArray := by apply Array.ext'; simp [kz hf _ _ hx]
   have e2 : captured.map a.eval = y.toArray := by apply Array.ext'; simp [kz hf _ _ hy]
   simp [execOp, Instr.makeFunc, e1, e2]
  ·exact h.elim
 case slice t x lo hi mx =>
  cases mx with
  | some m =>
   cases hi with
   | none => simp only [wOp] at h
   | some hi =>
    simp only [wOp] at h
    split at h
    ·rename_i y l k1 hh k2 mm hx hlo hhi hmm
     have e1 := pF hf hlo
     have e1' : (lo.map a.eval = none /\ l = none) \/ ∃ k n, l = some n /\ lo.map a.eval = some (.int k n) := e1.imp (fun e => ⟨by rw [e.1]; rfl, e.2⟩) id
     obtain ⟨v, hv, hrun⟩ := BD hC (k1 := k1) (k2 := k2) e1' h
     refine aR.pure _ v hv rfl fun w' => ?_
     simp [execOp, cd hf hx, kY hf hhi, kY hf hmm, hrun]
    ·exact h.elim
  | none =>
   simp only [wOp] at h
   split at h
   ·rename_i y l hh hx hlo hhi
    have e1 := pF hf hlo
    have e2 := pF hf hhi
    have e1' : (lo.map a.eval = none /\ l = none) \/ ∃ k n, l = some n /\ lo.map a.eval = some (.int k n) := e1.imp (fun e => ⟨by rw [e.1]; rfl, e.2⟩) id
    have e2' : (hi.map a.eval = none /\ hh = none) \/ ∃ k n, hh = some n /\ hi.map a.eval = some (.int k n) := e2.imp (fun e => ⟨by rw [e.1]; rfl, e.2⟩) id
    obtain ⟨v, hv, hrun⟩ := Dx hC e1' e2' h
    refine aR.pure _ v hv rfl fun w' => ?_
    simp [execOp, cd hf hx, hrun]
   ·exact h.elim
 case fieldAddr t x f => exact wV hC hf h
 case field t x f => exact DB hC hf h
 case indexAddr t x i => exact xH hC hf h
 case index t x i =>
  simp only [wOp] at h
  split at h
  ·rename_i y k' n hy hi
   obtain ⟨v, hv, hrun⟩ := DU hC (k := k') h
   refine aR.pure _ v hv rfl fun w' => ?_
   simp [execOp, cd hf hy, kY hf hi, hrun]
  ·exact h.elim
 case extract x i =>
  simp only [wOp] at h
  split at h
  ·rename_i vs hx
   split at h
   ·rename_i y hy
    refine aR.pure _ y h rfl fun w' => ?_
    rw [Array.getElem?_toList] at hy
    simp [execOp, kY hf hx, Instr.extract, hy]
   ·exact h.elim
  ·exact h.elim
 case call c =>
  obtain ⟨callee, args, ats⟩ := c
  simp only [wOp] at h
  split at h
  ·rename_i vs hvs
   cases callee with
   | builtin b =>
    simp only at h hr
    have hb : b = .len \/ b = .max \/ b = .min := by cases b <;> simp at hr <;> simp
    exact read_builtin hC hf hb hvs h
   | value f => simp at hr
   | invoke r m => simp at hr
  ·exact h.elim
end
end Go.Proofs.YtkmmphkjmamckacGreatDoor
