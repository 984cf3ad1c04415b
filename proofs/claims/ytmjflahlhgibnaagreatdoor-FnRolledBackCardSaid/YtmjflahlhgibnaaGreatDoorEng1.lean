/- The abstract run of a function and its soundness, part 1; no conditions. -/
import Derived.Below
import Derived.Orders
import Derived.Laws.AppendOwn
import Derived.Laws.MakeOwn
import Derived.Laws.OwnMore
import Derived.Laws.Rows
import Derived.Laws.Slices
import Derived.Laws.StructEq
import Derived.IntWalk
import Derived.KernelRfl
import Derived.Great.BuildSlice
import Derived.Laws.Cells
import Derived.Laws.Tables
import Derived.Maps.AppendAt
import Derived.Laws.BytesArg
/- An abstract run of a function's operations, over numbers and lists, and its rules. -/
set_option linter.unusedVariables false
namespace Go.Eng
open Go

/-! ### values, blocks -/
inductive LV where
  | int (k : IntKind) (n : Int) | bool (b : Bool) | str (s : ByteArray) | nilsl | sl (b : Nat) | ptr (b i j : Nat) | any | fn (g : Nat)
inductive AV where
  | v (x : LV) | agg (cs : List LV) | tup (ps : List (Bool × List LV))
def AV.cells : AV → List LV
  | .v x => [x]
  | .agg cs => cs
  | .tup _ => []
def LV.val : LV → Value
  | .int k n => .int k n
  | .bool b => .bool b
  | .str s => .string s
  | .nilsl => .slice none 0 0
  | .fn g => .func (.func g) #[] #[]
  | _ => undef
def LV.sc : LV → Bool
  | .int _ _ | .bool _ | .str _ | .fn _ => true
  | _ => false
def LV.one : LV → Bool
  | .any => false
  | _ => true
def LV.sc0 : LV → Bool
  | .int _ _ | .bool _ | .str _ | .nilsl => true
  | _ => false
/-- A kind of element of a slice: the type of its values in Lean, and their cells. -/
structure KT where
  T : Type
  ty : TypeId
  sz : Nat
  bytes : Nat
  zero : T
  enc : T → List LV
  dec : List LV → Option T
  /-- (Of the first kind alone: whether what is drawn is counted; a block of the machine's that nobody writes, and what is known of it.) -/
  mono : Bool
  pin : Option (Nat × (Obj → Prop))
structure KT.Ok (k : KT) : Prop where
  pos : 0 < k.sz
  bpos : 0 < k.bytes
  len : ∀ x, (k.enc x).length = k.sz
  sc : ∀ x, ∀ v ∈ k.enc x, v.sc = true
  dec : ∀ cs x, k.dec cs = some x → k.enc x = cs
inductive Blk (κ : Nat → KT) where
  | fresh | dead
  | cells (ty : TypeId) (cs : List LV)
  | rows (k : Nat) (own : Bool) (l : List (κ k).T)
abbrev Hp (κ : Nat → KT) := Nat → Blk κ
abbrev En := Nat → AV
def updE (e : En) (d : Nat) (v : AV) : En := fun t => bif Nat.beq t d then v else e t
def updH {κ : Nat → KT} (h : Hp κ) (b : Nat) (x : Blk κ) : Hp κ := fun n => bif Nat.beq n b then x else h n
/-- What a type's number tells the abstract run. 'flds': offset, cells, whether it is a struct; 'slk': the kind of a slice type's elements. -/
structure TI where
  size : Nat
  agg : Bool
  flds : List (Nat × Nat × Bool)
  zero : List LV
  slk : Option Nat
  eq : Bool
  str : Bool := false
  knd : Option IntKind := none

/-! ### programs over blocks -/
inductive AP (κ : Nat → KT) (α : Type) : Type 1 where
  | ret (a : α)
  | get (b : Nat) (k : Blk κ → AP κ α)
  | put (b : Nat) (x : Blk κ) (k : AP κ α)
  | lift {β : Type} (o : Option β) (k : β → AP κ α)
  | ite (c : Bool) (x y : AP κ α)
  | fail
def AP.bind {κ : Nat → KT} {α β : Type} : AP κ α → (α → AP κ β) → AP κ β
  | .ret a, f => f a
  | .get b k, f => .get b fun x => (k x).bind f
  | .put b x k, f => .put b x (k.bind f)
  | .lift o k, f => .lift o fun y => (k y).bind f
  | .ite c x y, f => .ite c (x.bind f) (y.bind f)
  | .fail, _ => .fail
/-- The run, with the blocks that it read and wrote. -/
def AP.run {κ : Nat → KT} {α R : Type} : AP κ α → Hp κ → List Nat → List Nat → (α → Hp κ → List Nat → List Nat → Option R) → Option R
  | .ret a, h, rs, ws, K => K a h rs ws
  | .get b k, h, rs, ws, K => (k (h b)).run h (b :: rs) ws K
  | .put b x k, h, rs, ws, K => k.run (updH h b x) rs (b :: ws) K
  | .lift o k, h, rs, ws, K => o.bind fun y => (k y).run h rs ws K
  | .ite c x y, h, rs, ws, K => bif c then x.run h rs ws K else y.run h rs ws K
  | .fail, _, _, _, _ => none

/-! ### one operation -/
structure St (κ : Nat → KT) where
  env : En
  H : Hp κ
  nx : Nat
def ofVal : Value → AV
  | .int k n => .v (.int k n)
  | .bool b => .v (.bool b)
  | .string s => .v (.str s)
  | .slice none 0 0 => .v .nilsl
  | _ => .v .any
def evO (e : En) : Operand → AV
  | .tmp t => e t
  | .const v => ofVal v
  | .func f => .v (.fn f)
  | _ => .v .any
section
variable {κ : Nat → KT}
def newBlk {α : Type} (nm : Nat) (x : Blk κ) (k : AP κ α) : AP κ α :=
  .get nm fun b => match b with
    | .fresh => .put nm x k
    | _ => .fail
/-- The value of a type in the cells that lie ahead. -/
def partV (i : TI) (cs : List LV) : Option AV :=
  let xs := cs.take i.size
  bif Nat.beq xs.length i.size then (bif i.agg then some (.agg xs) else match xs with | [x] => some (.v x) | _ => none) else none
def retO {α : Type} : Option α → AP κ α
  | some a => .ret a
  | none => .fail
def splice (cs : List LV) (j : Nat) (xs : List LV) : List LV := cs.take j ++ xs ++ cs.drop (j + xs.length)
def allOne : List LV → Bool
  | [] => true
  | x :: xs => x.one && allOne xs
def AV.one : AV → Bool
  | .v x => x.one
  | .agg cs => allOne cs
  | .tup _ => false
def sameOp : Operand → Operand → Bool
  | .tmp a, .tmp b => Nat.beq a b
  | .const (.int .i64 a), .const (.int .i64 b) => decide (a = b)
  | _, _ => false
/-- Comparison cell by cell, as it goes for a struct of numbers, bools and strings. -/
def eqLV : LV → LV → Option Bool
  | .int k a, .int k' b => bif decide (k = k') then some (a == b) else none
  | .bool a, .bool b => some (a == b)
  | .str a, .str b => some (a == b)
  | _, _ => none
def eqCells : List LV → List LV → Option Bool
  | [], [] => some true
  | [x], [y] => eqLV x y
  | x :: xs, y :: ys => (eqLV x y).bind fun a => (eqCells xs ys).bind fun b => some (a && b)
  | _, _ => none
def mk1 : LV → Nat
  | .int _ _ => 0
  | .bool _ => 1
  | .str _ => 2
  | _ => 3
/-- Of the same make, cell by cell. -/
def sameMk : List LV → List LV → Bool
  | [], [] => true
  | x :: xs, y :: ys => Nat.beq (mk1 x) (mk1 y) && sameMk xs ys
  | _, _ => false
def i64 (n : Int) : AV := .v (.int .i64 n)
def bv (b : Bool) : AV := .v (.bool b)
def bitop (o : BinOp) (k : IntKind) (x y : Int) : Int :=
  k.wrap (match o with
    | .and => (BitVec.ofInt k.bits x &&& BitVec.ofInt k.bits y).toNat
    | .or => (BitVec.ofInt k.bits x ||| BitVec.ofInt k.bits y).toNat
    | .xor => (BitVec.ofInt k.bits x ^^^ BitVec.ofInt k.bits y).toNat
    | _ => (BitVec.ofInt k.bits x &&& ~~~(BitVec.ofInt k.bits y)).toNat)
/-- Whole numbers of one kind. -/
def binI (o : BinOp) (k : IntKind) (x y : Int) : AP κ AV :=
  match o with
  | .add => .ret (.v (.int k (k.wrap (x + y))))
  | .sub => .ret (.v (.int k (k.wrap (x - y))))
  | .mul => .ret (.v (.int k (k.wrap (x * y))))
  | .quo => .ite (decide (y = 0)) .fail (.ret (.v (.int k (k.wrap (x.tdiv y)))))
  | .rem => .ite (decide (y = 0)) .fail (.ret (.v (.int k (x.tmod y))))
  | .and => .ret (.v (.int k (bitop .and k x y)))
  | .or => .ret (.v (.int k (bitop .or k x y)))
  | .xor => .ret (.v (.int k (bitop .xor k x y)))
  | .andNot => .ret (.v (.int k (bitop .andNot k x y)))
  | .eql => .ret (bv (x == y))
  | .neq => .ret (bv (x != y))
  | .lss => .ret (bv (decide (x < y)))
  | .leq => .ret (bv (decide (x ≤ y)))
  | .gtr => .ret (bv (decide (x > y)))
  | .geq => .ret (bv (decide (x ≥ y)))
  | _ => .fail
def shiftI (o : BinOp) (k : IntKind) (x y : Int) : AP κ AV :=
  .ite (decide (y < 0)) .fail <| match o with
    | .shl => .ret (.v (.int k (k.wrap (x * 2 ^ (min y.toNat k.bits)))))
    | .shr => .ret (.v (.int k (x.fdiv (2 ^ (min y.toNat k.bits)))))
    | _ => .fail
def strI (o : BinOp) (x y : ByteArray) : AP κ AV :=
  match o with
  | .add => .ite (decide (((x.size + y.size : Nat) : Int) > IntKind.i64.max)) .fail (.ret (.v (.str (x ++ y))))
  | .eql => .ret (bv (x.toList == y.toList))
  | .neq => .ret (bv (!(x.toList == y.toList)))
  | _ => .fail
def isShift : BinOp → Bool
  | .shl | .shr => true
  | _ => false
def binA (ti : TypeId → Option TI) (o : BinOp) (t : TypeId) (x y : AV) : AP κ AV :=
  match x, y with
  | .v (.int k a), .v (.int k' b) => bif isShift o then shiftI o k a b else bif decide (k = k') then binI o k a b else .fail
  | .v (.str a), .v (.str b) => strI o a b
  | .v (.bool a), .v (.bool b) => (match ti t with
    | some i => bif i.eq && !i.agg then (match o with
      | .eql => .ret (bv (a == b))
      | .neq => .ret (bv (!(a == b)))
      | _ => .fail) else .fail
    | none => .fail)
  | .agg xs, .agg ys => (match ti t with
    | some i => bif i.eq && (i.agg && sameMk i.zero xs) then (match o with
      | .eql => (match eqCells xs ys with | some b => .ret (bv b) | none => .fail)
      | .neq => (match eqCells xs ys with | some b => .ret (bv (!b)) | none => .fail)
      | _ => .fail) else .fail
    | none => .fail)
  | _, _ => .fail
/-- The parts of a literal, one after the other. -/
def fillA (place : Nat → Option (Nat × Nat)) : List LV → List (Nat × AV) → Option (List LV)
  | cs, [] => some cs
  | cs, (f, x) :: ps => match place f with
    | some (o, n) => bif Nat.beq x.cells.length n && Nat.ble (o + n) cs.length && x.one then fillA place (splice cs o x.cells) ps else none
    | none => none
def decRows (k : KT) : Nat → List LV → Option (List k.T)
  | 0, [] => some []
  | 0, _ :: _ => none
  | n + 1, cs => (k.dec (cs.take k.sz)).bind fun x => (decRows k n (cs.drop k.sz)).bind fun xs => some (x :: xs)
def zeros (k : KT) (n : Nat) : List LV := (List.replicate n (k.enc k.zero)).flatten
def assoc {α : Type _} : List (Nat × α) → Nat → Option α
  | [], _ => none
  | (i, a) :: xs, n => bif Nat.beq n i then some a else assoc xs n
/-- A slice's elements, of kind k. -/
def rowsOf {α : Type} (k : Nat) (b : Blk κ) (f : Bool → List (κ k).T → AP κ α) : AP κ α :=
  match b with
  | .rows k' own l => if h : k' = k then f own (h ▸ l) else .fail
  | _ => .fail
def withRows {α : Type} (k : Nat) (x : AV) (f : List (κ k).T → AP κ α) : AP κ α :=
  match x with
  | .v (.sl b) => .get b fun blk => rowsOf k blk fun _ l => f l
  | .v .nilsl => f []
  | _ => .fail
def cap48 : Nat := 140737488355328
/-- Bytes of a slice, as a string. -/
def strB (ns : List Int) : ByteArray := ⟨(ns.map fun n => UInt8.ofNat n.toNat).toArray⟩
def u8s : List LV → Option (List Int)
  | [] => some []
  | .int .u8 n :: r => (u8s r).map fun ns => n :: ns
  | _ => none
def isU8 : Option TI → Bool
  | some z => match z.knd with
    | some .u8 => true
    | _ => false
  | none => false
def lenA (y : TI) (x : AV) : AP κ AV :=
  match x with
  | .v (.sl b) => bif y.slk.isSome then .get b fun blk => match blk with
    | .rows _ _ l => .ret (i64 (l.length : Int))
    | _ => .fail else .fail
  | .v .nilsl => bif y.slk.isSome then .ret (i64 0) else .fail
  | .v (.str s) => bif y.str then .ret (i64 (s.size : Int)) else .fail
  | _ => .fail
def appendB (k : Nat) (nm : Nat) (s : AV) (m : List (κ k).T) : AP κ AV :=
  match s with
    | .v .nilsl => .ite (decide (m.length * (κ k).bytes ≤ cap48)) (newBlk nm (.rows k true m) (.ret (.v (.sl nm)))) .fail
    | .v (.sl b) => .get b fun blk => rowsOf k blk fun own l =>
        bif own then .ite (decide ((l.length + m.length) * (κ k).bytes ≤ cap48)) (newBlk nm (.rows k true (l ++ m)) (.put b .dead (.ret (.v (.sl nm))))) .fail else .fail
    | _ => .fail
def appendA (k : Nat) (nm : Nat) (s x : AV) : AP κ AV := withRows k x fun m => appendB k nm s m
/-- A part of a slice: a view of its own, to be read alone; the slice itself is to be read alone from then on. -/
def sliceA (y : TI) (nm : Nat) (x : AV) (lo hi : Option AV) (mx : Option AV) : AP κ AV :=
  match x with
  | .v (.str s) => bif !y.str then .fail else (match mx with
    | some _ => .fail
    | none =>
      let go (l h : Int) : AP κ AV := .ite (decide (0 ≤ h)) (.ite (decide (h ≤ (s.size : Int))) (.ite (decide (0 ≤ l)) (.ite (decide (l ≤ h)) (.ret (.v (.str (s.extract l.toNat h.toNat)))) .fail) .fail) .fail) .fail
      match lo, hi with
      | some (.v (.int _ l)), some (.v (.int _ h)) => go l h
      | some (.v (.int _ l)), none => go l s.size
      | none, some (.v (.int _ h)) => go 0 h
      | none, none => go 0 s.size
      | _, _ => .fail)
  | .v (.sl b) => .get b fun blk => match blk with
    | .rows k own xs => bif !(match y.slk with | some k' => Nat.beq k k' | none => false) then .fail else
      (match mx with
      | some _ => .fail
      | none =>
        let go (l h : Int) : AP κ AV := .ite (decide (0 ≤ h)) (.ite (decide (h ≤ (xs.length : Int))) (.ite (decide (0 ≤ l)) (.ite (decide (l ≤ h))
          (newBlk nm (.rows k false ((xs.take h.toNat).drop l.toNat)) (bif own then .put b (.rows k false xs) (.ret (.v (.sl nm))) else .ret (.v (.sl nm)))) .fail) .fail) .fail) .fail
        match lo, hi with
        | some (.v (.int _ l)), some (.v (.int _ h)) => go l h
        | some (.v (.int _ l)), none => go l xs.length
        | none, some (.v (.int _ h)) => go 0 h
        | none, none => go 0 xs.length
        | _, _ => .fail)
    | _ => .fail
  | _ => .fail
abbrev Ct (κ : Nat → KT) := FuncId → Option (Nat → List AV → AP κ AV)
def aop (ti : TypeId → Option TI) (Γ : Ct κ) (nm : Nat) (e : En) : Op → AP κ AV
  | .move x | .assign x => .ret (evO e x)
  | .pick c a b => match evO e c with
    | .v (.bool q) => .ite q (.ret (evO e a)) (.ret (evO e b))
    | _ => .fail
  | .alloc t => match ti t with
    | some i => newBlk nm (.cells t i.zero) (.ret (.v (.ptr nm 0 0)))
    | none => .fail
  | .box t x => bif (evO e x).one then newBlk nm (.cells t (evO e x).cells) (.ret (.v (.ptr nm 0 0))) else .fail
  | .build t ps => match ti t with
    | some i => bif !i.flds.isEmpty then retO ((fillA (fun f => (i.flds[f]?).map fun q => (q.1, q.2.1)) i.zero (ps.toList.map fun p => (p.1, evO e p.2))).map .agg) else .fail
    | none => .fail
  | .buildSlice t n ps => match ti t with
    | some i => match i.slk with
      | some k => bif Nat.ble (n * (κ k).sz) 16777216 then (match fillA (fun j => some (j * (κ k).sz, (κ k).sz)) (zeros (κ k) n) (ps.toList.map fun p => (p.1, evO e p.2)) with
        | some cs => match decRows (κ k) n cs with
          | some l => newBlk nm (.rows k true l) (.ret (.v (.sl nm)))
          | none => .fail
        | none => .fail) else .fail
      | none => .fail
    | none => .fail
  | .load t a => match evO e a, ti t with
    | .v (.ptr b i j), some y => .get b fun blk => match blk with
      | .cells _ cs => retO (partV y (cs.drop j))
      | .rows k _ l => retO (partV y (((κ k).enc (l.getD i (κ k).zero)).drop j))
      | _ => .fail
    | _, _ => .fail
  | .store t a x => match evO e a, ti t with
    | .v (.ptr b i j), some y => bif Nat.beq (evO e x).cells.length y.size && (evO e x).one then .get b fun blk => match blk with
      | .cells ty cs => bif Nat.ble (j + y.size) cs.length then .put b (.cells ty (splice cs j (evO e x).cells)) (.ret (.v .any)) else .fail
      | .rows k own l => bif own && Nat.ble (j + y.size) (κ k).sz then (match (κ k).dec (splice ((κ k).enc (l.getD i (κ k).zero)) j (evO e x).cells) with
        | some r => .put b (.rows k true (l.set i r)) (.ret (.v .any))
        | none => .fail) else .fail
      | _ => .fail else .fail
    | _, _ => .fail
  | .nilCheck x => match evO e x with
    | .v (.ptr b i j) => .get b fun blk => match blk with
      | .cells _ _ => .ret (.v (.ptr b i j))
      | .rows _ _ _ => .ret (.v (.ptr b i j))
      | _ => .fail
    | _ => .fail
  | .binOp o t x y _ => binA ti o t (evO e x) (evO e y)
  | .unOp o _ x => match o, evO e x with
    | .not, .v (.bool b) => .ret (bv (!b))
    | .neg, .v (.int k n) => .ret (.v (.int k (k.wrap (0 - n))))
    | _, _ => .fail
  | .makeSlice t l c => bif sameOp l c then (match evO e l, ti t with
    | .v (.int .i64 l), some y => match y.slk with
      | some k => .ite (decide (0 ≤ l)) (.ite (decide (l.toNat * (κ k).bytes ≤ cap48)) (newBlk nm (.rows k true (List.replicate l.toNat (κ k).zero)) (.ret (.v (.sl nm)))) .fail) .fail
      | none => .fail
    | _, _ => .fail) else .fail
  | .slice t x lo hi mx => match ti t with
    | some y => sliceA y nm (evO e x) (lo.map (evO e)) (hi.map (evO e)) (mx.map (evO e))
    | none => .fail
  | .fieldAddr t x f => match evO e x, ti t with
    | .v (.ptr b i j), some y => match y.flds[f]? with
      | some (o, _, _) => .get b fun blk => match blk with
        | .cells _ _ => .ret (.v (.ptr b i (j + o)))
        | .rows _ _ _ => .ret (.v (.ptr b i (j + o)))
        | _ => .fail
      | none => .fail
    | _, _ => .fail
  | .field t x f => match evO e x, ti t with
    | .agg cs, some y => match y.flds[f]? with
      | some (o, n, g) => retO (partV ⟨n, g, [], [], none, false, false, none⟩ (cs.drop o))
      | none => .fail
    | _, _ => .fail
  | .indexAddr t x ix => match evO e x, evO e ix, ti t with
    | .v (.sl b), .v (.int .i64 i), some y => match y.slk with
      | some k' => .get b fun blk => match blk with
        | .rows k _ l => bif Nat.beq k k' then .ite (decide (0 ≤ i)) (.ite (decide (i < (l.length : Int))) (.ret (.v (.ptr b i.toNat 0))) .fail) .fail else .fail
        | _ => .fail
      | none => .fail
    | _, _, _ => .fail
  | .index t x ix => match evO e x, evO e ix, ti t with
    | .v (.str s), .v (.int .i64 i), some y => bif y.str then .ite (decide (0 ≤ i)) (.ite (decide (i < (s.size : Int))) (.ret (.v (.int .u8 ((s.data.toList.getD i.toNat 0).toNat : Int)))) .fail) .fail else .fail
    | _, _, _ => .fail
  | .convert t t' x => match evO e x, ti t, ti t' with
    | .v (.int k n), some _, some y => match y.knd with
      | some k' => .ret (.v (.int k' (k'.wrap n)))
      | none => .fail
    | .v (.sl b), some y0, some y => match y0.slk with
      | some k => bif y.str && (isU8 (ti (κ k).ty) && Nat.beq (κ k).sz 1) then .get b fun blk => rowsOf k blk fun _ l => (match u8s (l.flatMap (κ k).enc) with
        | some ns => .ret (.v (.str (strB ns)))
        | none => .fail) else .fail
      | none => .fail
    | _, _, _ => .fail
  | .extract t i => match evO e t with
    | .tup ps => match ps[i]? with
      | some (true, cs) => .ret (.agg cs)
      | some (false, [x]) => .ret (.v x)
      | _ => .fail
    | _ => .fail
  | .call c => match c.callee with
    | .value (.func f) => match Γ f with
      | some g => g nm (c.args.toList.map (evO e))
      | none => .fail
    | .builtin .len => match c.args.toList, c.argTypes.toList with
      | [x], [t] => match ti t with
        | some y => lenA y (evO e x)
        | none => .fail
      | _, _ => .fail
    | .builtin .append => match c.args.toList, c.argTypes.toList with
      | [s, x], [t, t'] => bif Nat.beq t t' then (match ti t with
        | some y => match y.slk with
          | some k => appendA k nm (evO e s) (evO e x)
          | none => .fail
        | none => .fail) else .fail
      | _, _ => .fail
    | _ => .fail
  | _ => .fail
/-! ### regions -/
structure Fp where
  rs : List Nat
  ws : List Nat
def gslot (ops : List Oper) (j : Nat) : Option Nat := match ops[j]? with
  | some o => o.dst
  | none => none
def putE (e : En) (d : Option Nat) (v : AV) : En := match d with
  | some d => updE e d v
  | none => e
variable {R : Type}
def stepO (ti : TypeId → Option TI) (Γ : Ct κ) (o : Oper) (nm : Nat) (s : St κ) (K : St κ → Fp → Option R) : Option R :=
  (aop ti Γ nm s.env o.op).run s.H [] [] fun v h rs ws => K ⟨putE s.env o.dst v, h, s.nx⟩ ⟨rs, ws⟩
def skipO (o : Oper) (s : St κ) : St κ := ⟨putE s.env o.dst (.tup []), s.H, s.nx⟩
def litE (e : En) (t : Nat) (b : Bool) : En := updE e t (bv b)
def opsRun (ti : TypeId → Option TI) (Γ : Ct κ) (all : List Oper) : List Oper → Nat → List Fp → St κ → (St κ → List Fp → Option R) → Option R
  | [], _, tr, s, K => K s tr
  | o :: os, i, tr, s, K =>
    match o.guard with
    | none => stepO ti Γ o (s.nx + 32 * i) s fun s' f => opsRun ti Γ all os (i + 1) (f :: tr) s' K
    | some (j, want) => match gslot all j with
      | some t => match s.env t with
        | .v (.bool q) =>
          bif q then (match want with
            | true => stepO ti Γ o (s.nx + 32 * i) ⟨litE s.env t true, s.H, s.nx⟩ fun s' f => opsRun ti Γ all os (i + 1) (f :: tr) s' K
            | false => opsRun ti Γ all os (i + 1) (⟨[], []⟩ :: tr) (skipO o ⟨litE s.env t true, s.H, s.nx⟩) K)
          else (match want with
            | false => stepO ti Γ o (s.nx + 32 * i) ⟨litE s.env t false, s.H, s.nx⟩ fun s' f => opsRun ti Γ all os (i + 1) (f :: tr) s' K
            | true => opsRun ti Γ all os (i + 1) (⟨[], []⟩ :: tr) (skipO o ⟨litE s.env t false, s.H, s.nx⟩) K)
        | .tup [] => opsRun ti Γ all os (i + 1) (⟨[], []⟩ :: tr) (skipO o s) K
        | _ => none
      | none => none
/-- Which operations each one waits for, through others too (a mask each). -/
def maskOf (ms : List Nat) (o : Oper) : Nat := o.after.toList.foldl (fun m e => bif Region.binds .any e then (m ||| (1 <<< e.on)) ||| (ms.getD e.on 0) else m) 0
def befM : List Oper → List Nat → List Nat
  | [], ms => ms
  | o :: os, ms => befM os (ms ++ [maskOf ms o])
def disj : List Nat → List Nat → Bool
  | [], _ => true
  | x :: xs, ys => !(ys.any (Nat.beq x)) && disj xs ys
def fpApart (a b : Fp) : Bool := disj a.ws b.ws && disj a.ws b.rs && disj a.rs b.ws
def looks (ops : List Oper) (o : Oper) : List Nat :=
  (o.op.operands.toList.filterMap fun | .tmp t => some t | _ => none) ++ (match o.guard with | some (g, _) => (gslot ops g).toList | none => [])
def tApart (ops : List Oper) (x y : Oper) : Bool :=
  (match x.dst with | some d => !((looks ops y).any (Nat.beq d)) && (match y.dst with | some d' => !(Nat.beq d d') | none => true) | none => true) &&
  (match y.dst with | some d => !((looks ops x).any (Nat.beq d)) | none => true)
/-- Each pair of operations is apart, or the later one waits for the earlier. -/
def pairsFrom (ops : List Oper) (o : Oper) (f : Fp) (i : Nat) : List Oper → List Nat → List Fp → Bool
  | o' :: os, m :: ms, f' :: fs => (Nat.testBit m i || (tApart ops o o' && fpApart f f')) && pairsFrom ops o f i os ms fs
  | [], [], [] => true
  | _, _, _ => false
def pairsOk (ops : List Oper) : List Oper → List Nat → List Fp → Nat → Bool
  | o :: os, _ :: ms, f :: fs, i => pairsFrom ops o f i os ms fs && pairsOk ops os ms fs (i + 1)
  | [], [], [], _ => true
  | _, _, _, _ => false
def edgesOk : List Oper → Nat → Bool
  | [], _ => true
  | o :: os, i => o.after.toList.all (fun e => !(Region.binds .any e) || Nat.blt e.on i) && edgesOk os (i + 1)
def drawOk (ops : List Oper) (fs : List Fp) : Bool := edgesOk ops 0 && pairsOk ops ops (befM ops []) fs 0

/-! ### what lives on at a loop's head -/
def envOf (l : List (Nat × AV)) : En := fun t => (assoc l t).getD (.v .any)
def hpOf (l : List (Blk κ)) : Hp κ := fun n => (l[n]?).getD .fresh
def idxOf : List Nat → Nat → Nat → Option Nat
  | [], _, _ => none
  | x :: xs, b, i => bif Nat.beq x b then some i else idxOf xs b (i + 1)
def renL (ρ : List Nat) : LV → LV
  | .sl b => match idxOf ρ b 0 with | some i => .sl i | none => .any
  | .ptr b i j => match idxOf ρ b 0 with | some n => .ptr n i j | none => .any
  | x => x
def renA (ρ : List Nat) : AV → AV
  | .v x => .v (renL ρ x)
  | .agg cs => .agg (cs.map (renL ρ))
  | .tup ps => .tup (ps.map fun p => (p.1, p.2.map (renL ρ)))
def renB (ρ : List Nat) : Blk κ → Blk κ
  | .cells ty cs => .cells ty (cs.map (renL ρ))
  | b => b
def refL : LV → List Nat
  | .sl b | .ptr b _ _ => [b]
  | _ => []
def refA : AV → List Nat
  | .v x => refL x
  | .agg cs => cs.flatMap refL
  | .tup ps => ps.flatMap fun p => p.2.flatMap refL
def refB : Blk κ → List Nat
  | .cells _ cs => cs.flatMap refL
  | _ => []
def addNew : List Nat → List Nat → List Nat
  | ρ, [] => ρ
  | ρ, b :: bs => addNew (match idxOf ρ b 0 with | some _ => ρ | none => ρ ++ [b]) bs
def nodupN : List Nat → Bool
  | [] => true
  | x :: xs => !(xs.any (Nat.beq x)) && nodupN xs
/-- The slots that live on; what is a nil slice so far, in a slot, in a struct or in the struct a slot points at, gets a block of its own (a kind for each cell). -/
abbrev Live := List (Nat × List (Option Nat))
def nil1 (x : LV) (h : Option Nat) (H : Hp κ) (n : Nat) : Option (LV × Hp κ × Nat) :=
  match x, h with
  | .nilsl, some k => (match H n with
    | .fresh => some (.sl n, updH H n (.rows k true []), n + 1)
    | _ => none)
  | x, _ => some (x, H, n)
def nilL : List LV → List (Option Nat) → Hp κ → Nat → Option (List LV × Hp κ × Nat)
  | x :: xs, h :: hs, H, n => (match nil1 x h H n with
    | some q => (match nilL xs hs q.2.1 q.2.2 with
      | some q' => some (q.1 :: q'.1, q'.2.1, q'.2.2)
      | none => none)
    | none => none)
  | xs, _, H, n => some (xs, H, n)
def nilA (x : AV) (hs : List (Option Nat)) (H : Hp κ) (n : Nat) : Option (AV × Hp κ × Nat) :=
  match x with
  | .v (.ptr b i j) => (match H b with
    | .cells ty cs => (match nilL cs hs H n with
      | some q => some (.v (.ptr b i j), updH q.2.1 b (.cells ty q.1), q.2.2)
      | none => none)
    | _ => some (.v (.ptr b i j), H, n))
  | .v x => (match hs with
    | h :: _ => (match nil1 x h H n with
      | some q => some (.v q.1, q.2.1, q.2.2)
      | none => none)
    | [] => some (.v x, H, n))
  | .agg cs => (match nilL cs hs H n with
    | some q => some (.agg q.1, q.2.1, q.2.2)
    | none => none)
  | x => some (x, H, n)
/-- nil slices that live on become empty blocks with names from n on -/
def unNil (s : St κ) : Live → Nat → Option (St κ)
  | [], _ => some s
  | (_, []) :: ls, n => unNil s ls n
  | (t, h :: hs) :: ls, n => match nilA (s.env t) (h :: hs) s.H n with
    | some q => unNil ⟨updE s.env t q.1, q.2.1, s.nx⟩ ls q.2.2
    | none => none
def upto : Nat → List Nat
  | 0 => []
  | n + 1 => upto n ++ [n]
/-- The names that live on: those of the m blocks that came in first. -/
def namesOf (m : Nat) (s : St κ) (L : Live) : List Nat :=
  let r1 := addNew (upto m) (L.flatMap fun t => refA (s.env t.1))
  addNew r1 (r1.flatMap fun b => refB (s.H b))
def zipE : Live → List AV → List (Nat × AV)
  | q :: L, v :: vs => (q.1, v) :: zipE L vs
  | _, _ => []
/-- The state told by its slots and its blocks. -/
def stOf (L : Live) (vs : List AV) (bs : List (Blk κ)) : St κ := ⟨envOf (zipE L vs), hpOf bs, bs.length⟩
def norm (m : Nat) (L : Live) (s : St κ) (K : List AV → List (Blk κ) → Option R) : Option R :=
  match unNil s L s.nx with
  | some s1 =>
    let ρ := namesOf m s1 L
    bif nodupN ρ then K (L.map fun t => renA ρ (s1.env t.1)) (ρ.map fun b => renB ρ (s1.H b)) else none
  | none => none

/-! ### code -/
inductive Ex where
  | normal | exit (id : Nat) | ret
def firstR : Code → Nat
  | .region id _ _ => id
  | .seq a _ => firstR a
  | .cond _ a _ => firstR a
  | .block _ b => firstR b
  | .loop b => firstR b
  | .scope b => firstR b
  | _ => 0
def loopN (m : Nat) (body : (Ex → St κ → Option R) → St κ → Option R) (L L' : Live) (K : Ex → St κ → Option R) : Nat → List AV → List (Blk κ) → Option R
  | 0, _, _ => none
  | n + 1, vs, bs => body (fun e s' => match e with
    | .normal => norm m L s' (loopN m body L L' K n)
    | e => norm m L' s' fun vs bs => K e (stOf L' vs bs)) (stOf L vs bs)
/-- What stands in for a loop (its first region's number is the key): what lives on at its head, what behind it, and what it comes to. -/
structure LHi (κ : Nat → KT) where
  m : Nat
  L : Live
  L' : Live
  f : {R : Type} → (Ex → St κ → Option R) → List AV → List (Blk κ) → Option R
def Code.den (ti : TypeId → Option TI) (Γ : Ct κ) (LH : Nat → Option (LHi κ)) : Code → (Ex → St κ → Option R) → St κ → Option R
  | .skip, K, s => K .normal s
  | .ret, K, s => K .ret s
  | .exit id, K, s => K (.exit id) s
  | .seq a b, K, s => Code.den ti Γ LH a (fun e s' => match e with
    | .normal => Code.den ti Γ LH b K s'
    | e => K e s') s
  | .cond c a b, K, s => (match c with
    | .tmp t => (match s.env t with
      | .v (.bool q) => bif q then Code.den ti Γ LH a K ⟨litE s.env t true, s.H, s.nx⟩ else Code.den ti Γ LH b K ⟨litE s.env t false, s.H, s.nx⟩
      | _ => none)
    | _ => none)
  | .block id b, K, s => Code.den ti Γ LH b (fun e s' => match e with
    | .exit i => bif Nat.beq i id then K .normal s' else K (.exit i) s'
    | e => K e s') s
  | .loop b, K, s => (match LH (firstR b) with
    | some h => norm h.m h.L s (h.f K)
    | none => none)
  | .region _ ops draw, K, s =>
    bif draw then opsRun ti Γ ops.toList ops.toList 0 [] s fun s' tr => bif drawOk ops.toList tr.reverse then K .normal ⟨s'.env, s'.H, s'.nx + 32 * ops.toList.length⟩ else none
    else opsRun ti Γ ops.toList ops.toList 0 [] s fun s' _ => K .normal ⟨s'.env, s'.H, s'.nx + 32 * ops.toList.length⟩
  | _, _, _ => none

/-! ### a function: its results, and what is left of the blocks that came in to be written -/
/-- A result, and the blocks that came in to be written, as they are left (in their order), then the new blocks that it names. -/
structure Ret (κ : Nat → KT) where
  v : AV
  rw : List (Blk κ)
  bs : List (Blk κ)
def resPart (ti : TypeId → Option TI) (s : St κ) : ResultVar → Option (Bool × List LV)
  | .tmp t => match s.env t with
    | .v x => some (false, [x])
    | .agg cs => some (true, cs)
    | .tup _ => none
  | .cell a t => match s.env a, ti t with
    | .v (.ptr b _ j), some y => match s.H b with
      | .cells _ cs => match partV y (cs.drop j) with
        | some (.v x) => some (false, [x])
        | some (.agg xs) => some (true, xs)
        | _ => none
      | _ => none
    | _, _ => none
def resParts (ti : TypeId → Option TI) (s : St κ) : List ResultVar → Option (List (Bool × List LV))
  | [] => some []
  | r :: rs => match resPart ti s r with
    | some p => match resParts ti s rs with
      | some ps => some (p :: ps)
      | none => none
    | none => none
def resV : List (Bool × List LV) → Option AV
  | [(false, [x])] => some (.v x)
  | [(true, cs)] => some (.agg cs)
  | [_] => none
  | ps => some (.tup ps)
/-- Behind the body: m: how many blocks came in; rw: those of them that came in to be written. -/
def fin (ti : TypeId → Option TI) (rs : List ResultVar) (m : Nat) (rw : List Nat) (K : Ret κ → Option R) (s : St κ) : Option R :=
  match resParts ti s rs with
  | some ps => match resV ps with
    | some v =>
      let r1 := addNew (upto m) (refA v)
      let ρ := addNew r1 ((rw ++ r1.drop m).flatMap fun b => refB (s.H b))
      bif nodupN ρ then K ⟨renA ρ v, rw.map fun b => renB ρ (s.H b), (ρ.drop m).map fun b => renB ρ (s.H b)⟩ else none
    | none => none
  | none => none
def finK (ti : TypeId → Option TI) (rs : List ResultVar) (L : Live) (m : Nat) (rw : List Nat) (K : Ret κ → Option R) (e : Ex) (s : St κ) : Option R :=
  match e with
  | .normal | .ret => (match unNil s L s.nx with
    | some s1 => fin ti rs m rw K s1
    | none => none)
  | _ => none
/-! ### a function's contract over the caller's blocks -/
inductive Ls where
  | sc | ro (k : Nat) | rw (k : Nat)
/-- What a parameter is: a value of one cell, a struct, a pointer to a struct that is read and written. -/
inductive PSh where
  | one (l : Ls) | agg (ls : List Ls) | cur (ty : TypeId) (ls : List Ls)
abbrev Nms := List (Option Nat × Bool)
variable {α : Type}
def inL (sh : Ls) (x : LV) (n : Nat) (k : LV → List (Blk κ) → Nms → AP κ α) : AP κ α :=
  match sh, x with
  | .sc, x => bif x.sc then k x [] [] else .fail
  | .ro i, .nilsl => k (.sl n) [.rows i false []] [(none, false)]
  | .ro i, .sl b => .get b fun blk => rowsOf i blk fun _ l => k (.sl n) [.rows i false l] [(some b, false)]
  | .rw i, .nilsl => k (.sl n) [.rows i true []] [(none, true)]
  | .rw i, .sl b => .get b fun blk => rowsOf i blk fun own l => bif own then k (.sl n) [.rows i true l] [(some b, true)] else .fail
  | _, _ => .fail
def inLs : List Ls → List LV → Nat → (List LV → List (Blk κ) → Nms → AP κ α) → AP κ α
  | [], [], _, k => k [] [] []
  | s :: ss, x :: xs, n, k => inL s x n fun x' b1 n1 => inLs ss xs (n + n1.length) fun xs' b2 n2 => k (x' :: xs') (b1 ++ b2) (n1 ++ n2)
  | _, _, _, _ => .fail
def inP (sh : PSh) (x : AV) (n : Nat) (k : AV → List (Blk κ) → Nms → AP κ α) : AP κ α :=
  match sh, x with
  | .one s, .v x => inL s x n fun x' b ns => k (.v x') b ns
  | .agg ss, .agg xs => inLs ss xs n fun xs' b ns => k (.agg xs') b ns
  | .cur ty ss, .v (.ptr b 0 0) => .get b fun blk => match blk with
    | .cells ty' cs => bif Nat.beq ty ty' then inLs ss cs (n + 1) fun cs' bs ns => k (.v (.ptr n 0 0)) (.cells ty cs' :: bs) ((some b, true) :: ns) else .fail
    | _ => .fail
  | _, _ => .fail
def inPs : List PSh → List AV → Nat → (List AV → List (Blk κ) → Nms → AP κ α) → AP κ α
  | [], [], _, k => k [] [] []
  | s :: ss, x :: xs, n, k => inP s x n fun x' b1 n1 => inPs ss xs (n + n1.length) fun xs' b2 n2 => k (x' :: xs') (b1 ++ b2) (n1 ++ n2)
  | _, _, _, _ => .fail
def flL : Ls → List Bool
  | .sc => []
  | .ro _ => [false]
  | .rw _ => [true]
def flP : PSh → List Bool
  | .one l => flL l
  | .agg ls => ls.flatMap flL
  | .cur _ ls => true :: ls.flatMap flL
def flags (sig : List PSh) : List Bool := sig.flatMap flP
def rwI : List Bool → Nat → List Nat
  | [], _ => []
  | true :: fs, i => i :: rwI fs (i + 1)
  | false :: fs, i => rwI fs (i + 1)
def rwOk : Nms → Bool
  | [] => true
  | (some b, w) :: ns => (ns.all fun q => match q.1 with | some b' => !(Nat.beq b b') || (!w && !q.2) | none => true) && rwOk ns
  | (none, _) :: ns => rwOk ns
def outL (nm : Nat) (ns : Nms) : LV → LV
  | .sl i => (match ns[i]? with
    | some (some b, _) => .sl b
    | some (none, false) => .nilsl
    | some (none, true) => .any
    | none => .sl (nm + (i - ns.length)))
  | .ptr i p q => (match ns[i]? with
    | some (some b, _) => .ptr b p q
    | some (none, _) => .any
    | none => .ptr (nm + (i - ns.length)) p q)
  | x => x
def outA (nm : Nat) (ns : Nms) : AV → AV
  | .v x => .v (outL nm ns x)
  | .agg cs => .agg (cs.map (outL nm ns))
  | .tup ps => .tup (ps.map fun p => (p.1, p.2.map (outL nm ns)))
def outB (nm : Nat) (ns : Nms) : Blk κ → Blk κ
  | .cells ty cs => .cells ty (cs.map (outL nm ns))
  | b => b
def rwN : Nms → Nat → List (Nat × Option Nat)
  | [], _ => []
  | (b, true) :: ns, i => (i, b) :: rwN ns (i + 1)
  | (_, false) :: ns, i => rwN ns (i + 1)
def putAll (nm : Nat) (all : Nms) : List (Nat × Option Nat) → List (Blk κ) → AP κ α → AP κ α
  | (_, some b) :: ns, x :: xs, k => .put b (outB nm all x) (putAll nm all ns xs k)
  | (_, none) :: ns, _ :: xs, k => putAll nm all ns xs k
  | [], [], k => k
  | _, _, _ => .fail
def ownBlk : Blk κ → Bool
  | .cells _ _ => true
  | .rows _ own _ => own
  | _ => false
def newAll (nm0 : Nat) (all : Nms) : Nat → List (Blk κ) → AP κ α → AP κ α
  | nm, x :: xs, k => bif ownBlk x then newBlk nm (outB nm0 all x) (newAll nm0 all (nm + 1) xs k) else .fail
  | _, [], k => k
def outgo (nm : Nat) (ns : Nms) (r : Ret κ) : AP κ AV := putAll nm ns (rwN ns 0) r.rw (newAll nm ns nm r.bs (.ret (outA nm ns r.v)))
/-- A function in Lean, and how its result is laid out. -/
structure Lf (κ : Nat → KT) where
  β : Type
  o : Option β
  g : β → Ret κ
def asL (k : Nat) : Blk κ → Option (List (κ k).T)
  | .rows k' _ l => if h : k' = k then some (h ▸ l) else none
  | _ => none
/-- A block of kind k, as said. -/
def asO (k : Nat) (own : Bool) : Blk κ → Option (List (κ k).T)
  | .rows k' own' l => if h : k' = k then bif own == own' then some (h ▸ l) else none else none
  | _ => none
def contract (sig : List PSh) (body : List AV → List (Blk κ) → Option (Lf κ)) : Nat → List AV → AP κ AV := fun nm args =>
  inPs sig args 0 fun as bs ns => bif rwOk ns then (match body as bs with
    | some lf => .lift lf.o fun y => outgo nm ns (lf.g y)
    | none => .fail) else .fail
end
end Go.Eng

/- What the abstract run says of the machine: the relation between the two, and each operation. -/
set_option linter.unusedVariables false
set_option linter.unusedSimpArgs false
namespace Go.Eng
open Go
/-! ### what is drawn is never given back -/
theorem ask_drawn {α : Type} : ∀ (s : Ask α) (w : World), w.drawn ≤ (w.ask s).2.drawn
  | .done a, w => Nat.le_refl _
  | .ask what range k, w => by
    simp only [World.ask]
    split
    · exact ask_drawn (k 0) w
    · exact Nat.le_trans (Nat.le_succ _) (ask_drawn (k _) { w with drawn := w.drawn + 1 })
theorem sys_drawn (w : World) (c : Sys) : w.drawn ≤ (w.sys c).2.drawn := by
  have h := ask_drawn (Kernel.perform c w.os) w
  unfold World.sys
  split
  · exact Nat.le_refl _
  · rename_i r os w' heq
    rw [heq] at h
    exact h
theorem view_drawn {p : Program} {w w' : World} {at_ k : Addr} {u : TypeId} {v : Value} {a : Bool} {l : List Addr} (h : w.viewStore p at_ u k v a = .ok (w', l)) : w'.drawn = w.drawn := by
  unfold World.viewStore at h
  simp only [bind, Except.bind, pure, Except.pure] at h
  repeat' (split at h)
  all_goals first
    | (cases h; rfl)
    | (cases h; done)
theorem far_drawn {p : Program} {w w' : World} {k : Addr} {v : Value} {a : Bool} {l : List Addr} (h : w.farStore p k v a = .ok (w', l)) : w'.drawn = w.drawn := by
  unfold World.farStore at h
  split at h
  · split at h
    · rename_i r hr
      obtain rfl := Except.ok.inj h
      exact view_drawn hr
    · cases h
  · cases h
theorem run_drawn {α : Type} (p : Program) : ∀ (s : Sem α) (w : World) (v : α) (w' : World), s.run p w = .ok v w' → w.drawn ≤ w'.drawn
  | .pure a, w, v, w', h => by
    rw [Sem.run] at h
    obtain ⟨rfl, rfl⟩ := Result.ok.inj h
    exact Nat.le_refl _
  | .load m a k, w, v, w', h => by
    rw [Sem.run] at h
    split at h
    · exact run_drawn p _ _ _ _ h
    · split at h
      · exact run_drawn p _ _ _ _ h
      · cases h
  | .store m a x k, w, v, w', h => by
    have key : ∀ x : Value, ((match w.cell? a with
        | some _ => if w.frozen? a then Result.halt (.unsupported (.unsafePointer "a write to bytes that a string shares")) w else k.run p (w.setCell a x)
        | none => match w.farStore p a x (m == Mode.atomic) with
          | .ok (w, _) => k.run p w
          | .error h => .halt h w) = .ok v w') → w.drawn ≤ w'.drawn := fun x h => by
      split at h
      · split at h
        · cases h
        · exact run_drawn p k (w.setCell a x) _ _ h
      · split at h
        · rename_i w2 l he
          have := run_drawn p k w2 _ _ h
          have := far_drawn he
          omega
        · cases h
    cases x
    case agg c => rw [Sem.run] at h; cases h
    case tuple c => rw [Sem.run] at h; cases h
    all_goals exact key _ (by rw [Sem.run] at h; · exact h
                              all_goals (intro _ e; cases e))
  | .new o k, w, v, w', h => by
    rw [Sem.run] at h
    exact run_drawn p _ { w with heap := w.heap.push o } _ _ h
  | .shape r k, w, v, w', h => by
    rw [Sem.run] at h
    exact run_drawn p _ _ _ _ h
  | .freeze a n k, w, v, w', h => by
    rw [Sem.run] at h
    have := run_drawn p _ _ _ _ h
    have e : (w.freeze a n).drawn = w.drawn := by unfold World.freeze; split <;> rfl
    omega
  | .frozen a k, w, v, w', h => by
    rw [Sem.run] at h
    exact run_drawn p _ _ _ _ h
  | .getObj r k, w, v, w', h => by
    rw [Sem.run] at h
    split at h
    · cases h
    · exact run_drawn p _ _ _ _ h
    · cases h
  | .setObj r o k, w, v, w', h => by
    rw [Sem.run] at h
    split at h
    · cases h
    · exact run_drawn p _ { w with heap := w.heap.setIfInBounds r o } _ _ h
    · cases h
  | .choose q k, w, v, w', h => by
    rw [Sem.run] at h
    split at h
    · exact run_drawn p _ _ _ _ h
    · exact Nat.le_trans (Nat.le_succ _) (run_drawn p _ { w with drawn := w.drawn + 1 } _ _ h)
  | .sys c k, w, v, w', h => by
    rw [Sem.run] at h
    exact Nat.le_trans (sys_drawn w c) (run_drawn p _ _ _ _ h)
  | .program k, w, v, w', h => by
    rw [Sem.run] at h
    exact run_drawn p _ _ _ _ h
  | .mark m k, w, v, w', h => by
    rw [Sem.run] at h
    exact run_drawn p _ _ _ _ h
  | .halt x, w, v, w', h => by
    rw [Sem.run] at h
    cases h
section
variable {κ : Nat → KT}
abbrev Mu := Nat → Value
def flat (k : KT) (l : List k.T) : List Value := l.flatMap fun x => (k.enc x).map LV.val
/-- A value of one cell and what stands for it. -/
def RL (M : Mu) (H : Hp κ) : LV → Value → Prop
  | .int k n, c => c = .int k n
  | .bool b, c => c = .bool b
  | .str s, c => c = .string s
  | .nilsl, c => c = .slice none 0 0
  | .fn g, c => c = .func (.func g) #[] #[]
  | .any, _ => True
  | .sl b, c => match H b with
    | .fresh => False
    | .dead => c.oneCell' = true
    | .cells _ _ => False
    | .rows _ _ _ => c = M b
  | .ptr b i j, c => match H b with
    | .fresh => False
    | .dead => c.oneCell' = true
    | .cells _ _ => i = 0 ∧ ∃ g, M b = .pointer (some ⟨g, 0, none⟩) ∧ c = .pointer (some ⟨g, j, none⟩)
    | .rows k _ l => i < l.length ∧ ∃ a n cap, M b = .slice (some a) n cap ∧ c = .pointer (some (a.add (i * (κ k).sz + j)))
def RLs (M : Mu) (H : Hp κ) (cs : List LV) (vs : List Value) : Prop := vs.length = cs.length ∧ ∀ (j : Nat) x c, cs[j]? = some x → vs[j]? = some c → RL M H x c
def RP (M : Mu) (H : Hp κ) (p : Bool × List LV) (c : Value) : Prop :=
  match p with
  | (true, cs) => ∃ arr : Array Value, c = .agg arr ∧ RLs M H cs arr.toList
  | (false, [x]) => RL M H x c
  | _ => False
def RA (M : Mu) (H : Hp κ) : AV → Value → Prop
  | .v x, c => RL M H x c
  | .agg cs, c => ∃ arr : Array Value, c = .agg arr ∧ RLs M H cs arr.toList
  | .tup ps, c => ∃ arr : Array Value, c = .tuple arr ∧ arr.size = ps.length ∧ ∀ (j : Nat) p u, ps[j]? = some p → arr[j]? = some u → RP M H p u
def RE (M : Mu) (H : Hp κ) (e : En) (tmps : Array Value) : Prop := ∀ t, RA M H (e t) (tmps.getD t undef)
def RB (M : Mu) (H : Hp κ) (w : World) (b : Nat) : Blk κ → Prop
  | .fresh | .dead => True
  | .cells ty cs => ∃ g arr, M b = .pointer (some ⟨g, 0, none⟩) ∧ w.heap[g]? = some (.cells arr ty (0, 0)) ∧ RLs M H cs arr.toList
  | .rows k true l => w.ownsRow 0 (κ k).ty (κ k).sz (M b) l.length (flat (κ k) l)
  | .rows k false l => ∃ A c, M b = .slice A l.length c ∧ l.length ≤ c ∧ (A = none → c = 0) ∧ (0 < l.length → ∃ ad, A = some ad ∧ ∀ j u, (flat (κ k) l)[j]? = some u → w.cell? (ad.add j) = some u)
def hb : Value → Option Nat
  | .pointer (some a) => some a.block
  | .slice (some a) _ _ => some a.block
  | _ => none
def ownB : Blk κ → Bool
  | .cells _ _ => true
  | .rows _ own _ => own
  | _ => false
/-- The machine's block behind a name. -/
def ft (M : Mu) (H : Hp κ) (b : Nat) : Option Nat :=
  match H b with
  | .cells _ _ => hb (M b)
  | .rows _ true _ => hb (M b)
  | .rows _ false l => if l.length = 0 then none else hb (M b)
  | _ => none
structure RH (M : Mu) (H : Hp κ) (w : World) : Prop where
  blk : ∀ b, RB M H w b (H b)
  sep : ∀ b b' g, b ≠ b' → ownB (H b) = true → ft M H b = some g → ft M H b' ≠ some g
  pin : ∀ p, (κ 0).pin = some p → ∃ o, w.heap[p.1]? = some o ∧ p.2 o ∧ ∀ b, ownB (H b) = true → ft M H b ≠ some p.1
/-- What may become of a block: one that is to be read alone stays; one that may be written keeps its length, or is given away. -/
def BS : Blk κ → Blk κ → Prop
  | .fresh, _ => True
  | .dead, y => y = .dead
  | .cells ty cs, y => y = .dead ∨ ∃ cs', y = .cells ty cs' ∧ cs'.length = cs.length
  | .rows k true l, y => y = .dead ∨ ∃ own' l', y = .rows k own' l' ∧ l'.length = l.length
  | .rows k false l, y => y = .rows k false l
theorem BS.refl (x : Blk κ) : BS x x := by
  cases x with
  | fresh => trivial
  | dead => rfl
  | cells ty cs => exact .inr ⟨cs, rfl, rfl⟩
  | rows k own l => cases own
                    · rfl
                    · exact .inr ⟨true, l, rfl, rfl⟩
theorem BS.trans {x y z : Blk κ} (h : BS x y) (k : BS y z) : BS x z := by
  cases x with
  | fresh => trivial
  | dead => obtain rfl : y = .dead := h; exact k
  | cells ty cs =>
    rcases h with rfl | ⟨cs', rfl, h1⟩
    · exact .inl k
    · rcases k with rfl | ⟨cs'', rfl, h2⟩
      · exact .inl rfl
      · exact .inr ⟨cs'', rfl, h2.trans h1⟩
  | rows i own l =>
    cases own
    · obtain rfl : y = .rows i false l := h; exact k
    · rcases h with rfl | ⟨own', l', rfl, h1⟩
      · exact .inl k
      · cases own'
        · obtain rfl : z = .rows i false l' := k; exact .inr ⟨false, l', rfl, h1⟩
        · rcases k with rfl | ⟨own'', l'', rfl, h2⟩
          · exact .inl rfl
          · exact .inr ⟨own'', l'', rfl, h2.trans h1⟩
theorem BS.live {x y : Blk κ} (h : BS x y) (hx : x ≠ .fresh) : y ≠ .fresh := by
  cases x with
  | fresh => exact absurd rfl hx
  | dead => obtain rfl : y = .dead := h; simp
  | cells ty cs => rcases h with rfl | ⟨cs', rfl, _⟩ <;> simp
  | rows k own l => cases own
                    · obtain rfl : y = .rows k false l := h; simp
                    · rcases h with rfl | ⟨_, _, rfl, _⟩ <;> simp
structure Step (M : Mu) (H : Hp κ) (w : World) (M' : Mu) (H' : Hp κ) (w' : World) : Prop where
  os : w'.os = w.os
  tape : w'.tape = w.tape
  output : w'.output = w.output
  drawn : (κ 0).mono = true → w.drawn ≤ w'.drawn
  size : w.heap.size ≤ w'.heap.size
  frame : ∀ i, i < w.heap.size → (∀ b, ownB (H b) = true → ft M H b ≠ some i) → w'.heap[i]? = w.heap[i]?
  orig : ∀ b i, ownB (H' b) = true → ft M' H' b = some i → i < w.heap.size → ∃ b0, ownB (H b0) = true ∧ ft M H b0 = some i
  keep : ∀ x c, RL M H x c → RL M' H' x c
  same : ∀ b, H b ≠ .fresh → M' b = M b
  bs : ∀ b, BS (H b) (H' b)
theorem Step.refl (M : Mu) (H : Hp κ) (w : World) : Step M H w M H w :=
  ⟨rfl, rfl, rfl, fun _ => Nat.le_refl _, Nat.le_refl _, fun _ _ _ => rfl, fun b i h1 h2 _ => ⟨b, h1, h2⟩, fun _ _ h => h, fun _ _ => rfl, fun _ => BS.refl _⟩
theorem Step.trans {M M' M'' : Mu} {H H' H'' : Hp κ} {w w' w'' : World} (h : Step M H w M' H' w') (k : Step M' H' w' M'' H'' w'') : Step M H w M'' H'' w'' :=
  ⟨k.os.trans h.os, k.tape.trans h.tape, k.output.trans h.output, fun q => Nat.le_trans (h.drawn q) (k.drawn q), Nat.le_trans h.size k.size,
   fun i hi hn => (k.frame i (Nat.lt_of_lt_of_le hi h.size) (fun b ho hf => by
     obtain ⟨b0, h1, h2⟩ := h.orig b i ho hf hi
     exact hn b0 h1 h2)).trans (h.frame i hi hn),
   fun b i h1 h2 hi => by
     obtain ⟨b1, h3, h4⟩ := k.orig b i h1 h2 (Nat.lt_of_lt_of_le hi h.size)
     exact h.orig b1 i h3 h4 hi,
   fun x c hx => k.keep x c (h.keep x c hx),
   fun b hb => (k.same b ((h.bs b).live hb)).trans (h.same b hb),
   fun b => (h.bs b).trans (k.bs b)⟩
theorem Step.draw {M : Mu} {H : Hp κ} {w : World} (n : Nat) (hn : w.drawn ≤ n) : Step M H w M H { w with drawn := n } :=
  ⟨rfl, rfl, rfl, fun _ => hn, Nat.le_refl _, fun _ _ _ => rfl, fun b i h1 h2 _ => ⟨b, h1, h2⟩, fun _ _ h => h, fun _ _ => rfl, fun _ => BS.refl _⟩
theorem RB.heap {M : Mu} {H : Hp κ} {w w' : World} {b : Nat} {x : Blk κ} (h : RB M H w b x) (e : w'.heap = w.heap) : RB M H w' b x := by
  cases x with
  | fresh => trivial
  | dead => trivial
  | cells ty cs => simpa [RB, e] using h
  | rows k own l =>
    cases own
    · have hc : ∀ a, w'.cell? a = w.cell? a := fun a => by simp [World.cell?, e]
      simpa [RB, hc] using h
    · simpa [RB, World.ownsRow, e] using h
theorem RH.drawn {M : Mu} {H : Hp κ} {w : World} (h : RH M H w) (n : Nat) : RH M H { w with drawn := n } := ⟨fun b => (h.blk b).heap rfl, h.sep, h.pin⟩
theorem keepLs {M M' : Mu} {H H' : Hp κ} (hk : ∀ x c, RL M H x c → RL M' H' x c) {cs : List LV} {vs : List Value} (h : RLs M H cs vs) : RLs M' H' cs vs := ⟨h.1, fun j x c h1 h2 => hk _ _ (h.2 j x c h1 h2)⟩
theorem keepP {M M' : Mu} {H H' : Hp κ} (hk : ∀ x c, RL M H x c → RL M' H' x c) {p : Bool × List LV} {c : Value} (h : RP M H p c) : RP M' H' p c := by
  obtain ⟨b, cs⟩ := p
  cases b with
  | true => obtain ⟨arr, h1, h2⟩ := h; exact ⟨arr, h1, keepLs hk h2⟩
  | false =>
    cases cs with
    | nil => exact h
    | cons x xs => cases xs with
      | nil => exact hk _ _ h
      | cons y ys => exact h
theorem keepA {M M' : Mu} {H H' : Hp κ} (hk : ∀ x c, RL M H x c → RL M' H' x c) {x : AV} {c : Value} (h : RA M H x c) : RA M' H' x c := by
  cases x with
  | v x => exact hk x c h
  | agg cs => obtain ⟨arr, h1, h2⟩ := h; exact ⟨arr, h1, keepLs hk h2⟩
  | tup ps => obtain ⟨arr, h1, h2, h3⟩ := h; exact ⟨arr, h1, h2, fun j p u h4 h5 => keepP hk (h3 j p u h4 h5)⟩
theorem keepE {M M' : Mu} {H H' : Hp κ} (hk : ∀ x c, RL M H x c → RL M' H' x c) {e : En} {tm : Array Value} (h : RE M H e tm) : RE M' H' e tm := fun t => keepA hk (h t)

/-! ### lists of elements, flat -/
theorem flat_length (k : KT) (hk : k.Ok) (l : List k.T) : (flat k l).length = l.length * k.sz := by
  induction l with
  | nil => simp [flat]
  | cons x xs ih => simp only [flat, List.flatMap_cons, List.length_append, List.length_map, hk.len, List.length_cons] at *; rw [ih, Nat.add_mul]; omega
theorem flat_append (k : KT) (l m : List k.T) : flat k (l ++ m) = flat k l ++ flat k m := by simp [flat]
theorem flat_nil (k : KT) : flat k [] = [] := rfl
theorem flat_cons (k : KT) (x : k.T) (l : List k.T) : flat k (x :: l) = (k.enc x).map LV.val ++ flat k l := by simp [flat]
theorem flat_get (k : KT) (hk : k.Ok) : ∀ (l : List k.T) (i : Nat) (x : k.T), l[i]? = some x → ∀ j, j < k.sz → (flat k l)[i * k.sz + j]? = ((k.enc x)[j]?).map LV.val := by
  intro l
  induction l with
  | nil => intro i x h; simp at h
  | cons y ys ih =>
    intro i x h j hj
    rw [flat_cons]
    have hl : ((k.enc y).map LV.val).length = k.sz := by simp [hk.len]
    cases i with
    | zero =>
      obtain rfl : y = x := by simpa using h
      rw [Nat.zero_mul, Nat.zero_add, List.getElem?_append_left (by omega), List.getElem?_map]
    | succ i =>
      have h' : ys[i]? = some x := by simpa using h
      rw [List.getElem?_append_right (by rw [hl, Nat.succ_mul]; omega), hl]
      have : (i + 1) * k.sz + j - k.sz = i * k.sz + j := by rw [Nat.succ_mul]; omega
      rw [this]
      exact ih i x h' j hj
theorem flat_set (k : KT) (hk : k.Ok) : ∀ (l : List k.T) (i : Nat) (r : k.T), i < l.length →
    flat k (l.set i r) = (flat k l).take (i * k.sz) ++ (k.enc r).map LV.val ++ (flat k l).drop (i * k.sz + k.sz) := by
  intro l
  induction l with
  | nil => intro i r h; simp at h
  | cons y ys ih =>
    intro i r h
    have hl : ((k.enc y).map LV.val).length = k.sz := by simp [hk.len]
    cases i with
    | zero =>
      rw [List.set_cons_zero, flat_cons, flat_cons, Nat.zero_mul, List.take_zero, List.nil_append, Nat.zero_add, List.drop_append_of_le_length (by omega), List.drop_of_length_le (by omega), List.nil_append]
    | succ i =>
      rw [List.set_cons_succ, flat_cons, flat_cons, ih i r (by simpa using h)]
      have e1 : (i + 1) * k.sz = k.sz + i * k.sz := by rw [Nat.succ_mul]; omega
      have e2 : k.sz + i * k.sz + k.sz = k.sz + (i * k.sz + k.sz) := by omega
      rw [e1, e2, ← hl, List.take_length_add_append, List.drop_length_add_append]
      simp [hl]
theorem flat_one (k : KT) (hk : k.Ok) (l : List k.T) : ∀ u ∈ flat k l, u.oneCell' = true := by
  intro u hu
  obtain ⟨x, hx, hu⟩ := List.mem_flatMap.1 hu
  obtain ⟨v, hv, rfl⟩ := List.mem_map.1 hu
  have := hk.sc x v hv
  cases v <;> simp [LV.sc, LV.val, Value.oneCell'] at *
theorem sc_RL {M : Mu} {H : Hp κ} {x : LV} (h : x.sc = true) : RL M H x x.val := by cases x <;> simp [LV.sc, RL, LV.val] at *
theorem sc0_RL {M : Mu} {H : Hp κ} {x : LV} (h : x.sc0 = true) : RL M H x x.val := by cases x <;> simp [LV.sc0, RL, LV.val] at *
theorem RL_sc {M : Mu} {H : Hp κ} {x : LV} {c : Value} (h : x.sc = true) (hr : RL M H x c) : c = x.val := by cases x <;> simp [LV.sc, RL, LV.val] at * <;> exact hr

/-! ### the memory behind the names -/
theorem ft_lt (hκ : ∀ k, (κ k).Ok) {M : Mu} {H : Hp κ} {w : World} (h : RH M H w) {b g : Nat} (hf : ft M H b = some g) : g < w.heap.size := by
  have hb' := h.blk b
  unfold ft at hf
  cases hx : H b with
  | fresh => rw [hx] at hf; cases hf
  | dead => rw [hx] at hf; cases hf
  | cells ty cs =>
    rw [hx] at hf hb'
    obtain ⟨g', arr, h1, h2, _⟩ := hb'
    simp only [h1, hb, Option.some.injEq] at hf
    subst hf
    exact (Array.getElem?_eq_some_iff.1 h2).1
  | rows k own l =>
    rw [hx] at hf hb'
    cases own with
    | true =>
      simp only at hf
      have h1 : w.ownsRow 0 (κ k).ty (κ k).sz (M b) l.length (flat (κ k) l) := hb'
      refine (h1.lt g ?_).2
      cases hm : M b <;> rw [hm] at hf <;> simp [hb] at hf
      · rename_i p; rcases h1.2 with ⟨e, _⟩ | ⟨g', cap, cur, e, _⟩ <;> rw [hm] at e <;> cases e
      · rename_i a n c
        cases a with
        | none => simp [hb] at hf
        | some a => simpa [Value.ownBlock, hb] using hf
    | false =>
      obtain ⟨A, c, h1, h2, h2', h3⟩ := hb'
      simp only at hf
      split at hf
      · cases hf
      · rename_i hne
        obtain ⟨ad, rfl, h4⟩ := h3 (by omega)
        simp only [h1, hb, Option.some.injEq] at hf
        subst hf
        have hl := flat_length (κ k) (hκ k) l
        have hp := (hκ k).pos
        have h5 : 0 < (flat (κ k) l).length := by rw [hl]; exact Nat.mul_pos (by omega) hp
        have h6 := h4 0 _ (List.getElem?_eq_getElem h5)
        exact World.block_lt_of_cell? w _ (by simpa [Addr.add] using h6)
theorem owns_same {w w' : World} {base n size : Nat} {e : TypeId} {v : Value} {xs : List Value} (h : w.ownsRow base e size v n xs) (hg : ∀ g, hb v = some g → w'.heap[g]? = w.heap[g]?) : w'.ownsRow base e size v n xs := by
  refine ⟨h.1, ?_⟩
  rcases h.2 with h2 | ⟨g, cap, cur, rfl, h3, h4, h5⟩
  · exact .inl h2
  · exact .inr ⟨g, cap, cur, rfl, h3, (hg g rfl).trans h4, h5⟩
/-- Names outside C are as they were; those of C are as said: the relation goes on. -/
theorem changeG (hκ : ∀ k, (κ k).Ok) {M M' : Mu} {H H' : Hp κ} {w w' : World} (C : Nat → Prop) (hH : RH M H w) (gos : w'.os = w.os) (gtape : w'.tape = w.tape) (gout : w'.output = w.output) (gdrawn : (κ 0).mono = true → w.drawn ≤ w'.drawn) (gsize : w.heap.size ≤ w'.heap.size)
    (gblk : ∀ i, i < w.heap.size → (∀ b0, C b0 → ownB (H b0) = true → ft M H b0 ≠ some i) → w'.heap[i]? = w.heap[i]?)
    (hs : ∀ b, ¬ C b → H' b = H b ∧ M' b = M b)
    (hk : ∀ x c, RL M H x c → RL M' H' x c)
    (hbk : ∀ b, C b → RB M' H' w' b (H' b))
    (hf : ∀ b g, C b → ft M' H' b = some g → w.heap.size ≤ g ∨ ∃ b0, C b0 ∧ ft M H b0 = some g ∧ (ownB (H' b) = true → ownB (H b0) = true))
    (hc : ∀ b b' g, C b → C b' → b ≠ b' → ownB (H' b) = true → ft M' H' b = some g → ft M' H' b' ≠ some g)
    (hM : ∀ b, C b → H b ≠ .fresh → M' b = M b) (hB : ∀ b, C b → BS (H b) (H' b)) :
    RH M' H' w' ∧ Step M H w M' H' w' := by
  have hft : ∀ b, ¬ C b → ft M' H' b = ft M H b := fun b hb => by unfold ft; rw [(hs b hb).1, (hs b hb).2]
  have hne : ∀ b g, ¬ C b → ft M H b = some g → w'.heap[g]? = w.heap[g]? := fun b g hb hfb =>
    gblk g (ft_lt hκ hH hfb) fun b0 h1 h2 h3 => hH.sep b0 b g (fun e => hb (e ▸ h1)) h2 h3 hfb
  refine ⟨⟨fun b => ?_, fun b b' g hbb ho hfb hfb' => ?_, fun p hp => ?_⟩, ⟨gos, gtape, gout, gdrawn, gsize, fun i hi hn => ?_, fun b i ho hfb hi => ?_, hk, fun b hb => ?_, fun b => ?_⟩⟩
  · by_cases hC : C b
    · exact hbk b hC
    · obtain ⟨e1, e2⟩ := hs b hC
      have h0 := hH.blk b
      have hn := hne b
      rw [e1]
      cases hx : H b with
      | fresh => trivial
      | dead => trivial
      | cells ty cs =>
        rw [hx] at h0
        obtain ⟨g, arr, h1, h2, h3⟩ := h0
        exact ⟨g, arr, e2.trans h1, (hn g hC (by simp [ft, hx, h1, hb])).trans h2, keepLs hk h3⟩
      | rows k own l =>
        rw [hx] at h0
        cases own with
        | true =>
          have h1 : w.ownsRow 0 (κ k).ty (κ k).sz (M b) l.length (flat (κ k) l) := h0
          show w'.ownsRow 0 _ _ (M' b) _ _
          rw [e2]
          exact owns_same h1 fun g hg => hn g hC (by simp only [ft, hx]; exact hg)
        | false =>
          obtain ⟨A, c, h1, h2, h2', h3⟩ := h0
          refine ⟨A, c, e2.trans h1, h2, h2', fun hp => ?_⟩
          obtain ⟨ad, rfl, h4⟩ := h3 hp
          refine ⟨ad, rfl, fun j u hj => ?_⟩
          have h5 := h4 j u hj
          have h6 : ft M H b = some ad.block := by simp only [ft, hx, h1, hb]; rw [if_neg (by omega)]
          have h7 : (ad.add j).block = ad.block := by unfold Addr.add; split <;> rfl
          exact (World.cell?_of_block (by rw [h7]; exact hn _ hC h6)).trans h5
  · by_cases h1 : C b
    · by_cases h2 : C b'
      · exact hc b b' g h1 h2 hbb ho hfb hfb'
      · rw [hft b' h2] at hfb'
        rcases hf b g h1 hfb with h3 | ⟨b0, h3, h4, h5⟩
        · have := ft_lt hκ hH hfb'; omega
        · exact hH.sep b0 b' g (fun e => h2 (e ▸ h3)) (h5 ho) h4 hfb'
    · rw [hft b h1] at hfb
      rw [(hs b h1).1] at ho
      by_cases h2 : C b'
      · rcases hf b' g h2 hfb' with h3 | ⟨b0, h3, h4, h5⟩
        · have := ft_lt hκ hH hfb; omega
        · exact hH.sep b b0 g (fun e => h1 (e ▸ h3)) ho hfb h4
      · rw [hft b' h2] at hfb'
        exact hH.sep b b' g hbb ho hfb hfb'
  · obtain ⟨o, h1, h2, h3⟩ := hH.pin p hp
    have hlt := (Array.getElem?_eq_some_iff.1 h1).1
    refine ⟨o, (gblk p.1 hlt fun b0 _ ho => h3 b0 ho).trans h1, h2, fun b ho hfb => ?_⟩
    by_cases hC : C b
    · rcases hf b p.1 hC hfb with h4 | ⟨b0, h4, h5, h6⟩
      · omega
      · exact h3 b0 (h6 ho) h5
    · rw [(hs b hC).1] at ho
      rw [hft b hC] at hfb
      exact h3 b ho hfb
  · exact gblk i hi fun b0 _ h2 h3 => hn b0 h2 h3
  · by_cases h1 : C b
    · rcases hf b i h1 hfb with h3 | ⟨b0, h3, h4, h5⟩
      · omega
      · exact ⟨b0, h5 ho, h4⟩
    · rw [hft b h1] at hfb
      rw [(hs b h1).1] at ho
      exact ⟨b, ho, hfb⟩
  · by_cases h1 : C b
    · exact hM b h1 hb
    · exact (hs b h1).2
  · by_cases h1 : C b
    · exact hB b h1
    · rw [(hs b h1).1]; exact BS.refl _
theorem change (hκ : ∀ k, (κ k).Ok) {M M' : Mu} {H H' : Hp κ} {w w' : World} (C : Nat → Prop) (hH : RH M H w) {row : Option Nat} (gr : w.grownBy w' row) (gd : w.drawn ≤ w'.drawn)
    (hrow : ∀ g, row = some g → ∃ b0, C b0 ∧ ownB (H b0) = true ∧ ft M H b0 = some g)
    (hs : ∀ b, ¬ C b → H' b = H b ∧ M' b = M b)
    (hk : ∀ x c, RL M H x c → RL M' H' x c)
    (hbk : ∀ b, C b → RB M' H' w' b (H' b))
    (hf : ∀ b g, C b → ft M' H' b = some g → w.heap.size ≤ g ∨ ∃ b0, C b0 ∧ ft M H b0 = some g ∧ (ownB (H' b) = true → ownB (H b0) = true))
    (hc : ∀ b b' g, C b → C b' → b ≠ b' → ownB (H' b) = true → ft M' H' b = some g → ft M' H' b' ≠ some g)
    (hM : ∀ b, C b → H b ≠ .fresh → M' b = M b) (hB : ∀ b, C b → BS (H b) (H' b)) :
    RH M' H' w' ∧ Step M H w M' H' w' :=
  changeG hκ C hH gr.os gr.tape gr.output (fun _ => gd) gr.size (fun i hi hn => gr.block i hi fun e => by
    obtain ⟨b0, h1, h2, h3⟩ := hrow i e.symm
    exact hn b0 h1 h2 h3) hs hk hbk hf hc hM hB
end
end Go.Eng

/- Each operation of the machine does what the abstract run says. -/
set_option linter.unusedVariables false
set_option linter.unusedSimpArgs false
namespace Go.Eng
open Go
def isAggD : TypeDesc → Bool
  | .struct _ | .array _ _ => true
  | _ => false
structure TypeOK (P : Program) (κ : Nat → KT) (t : TypeId) (x : TI) : Prop where
  ex : ∃ i d z, P.info? t = some i ∧ P.underlying t = some d ∧ i.size = x.size ∧ isAggD d = x.agg ∧ i.zero = some z ∧ z.cells.toList = x.zero.map LV.val
  z0 : ∀ v ∈ x.zero, v.sc0 = true
  fldsA : x.flds = [] ∨ ∃ fs, P.underlying t = some (.struct fs) ∧ fs.toList.mapM (fun f => (P.info? f.type).map fun i => (f.offset, i.size)) = some (x.flds.map fun q => (q.1, q.2.1)) ∧
    (fs.toList.map fun f => (P.underlying f.type).map isAggD) = x.flds.map (fun q => some q.2.2) ∧ ∀ q ∈ x.flds, q.2.1 ≠ 0
  slk : ∀ k, x.slk = some k → P.underlying t = some (.slice (κ k).ty) ∧ ∃ i z, P.info? (κ k).ty = some i ∧ i.size = (κ k).sz ∧ i.bytes = (κ k).bytes ∧ i.zero = some z ∧ z.cells.toList = ((κ k).enc (κ k).zero).map LV.val
  eqB : x.eq = true → x.agg = false → P.underlying t = some .bool
  eqA : x.eq = true → x.agg = true → P.eqGuardType P.depth t = false ∧ ∀ (xs ys : Array Value) (as bs : List LV) b w, sameMk x.zero as = true → xs.toList = as.map LV.val → ys.toList = bs.map LV.val → eqCells as bs = some b → (Op.equalIn 10000 t (.agg xs) (.agg ys)).run P w = .ok b w
  str : x.str = true → P.underlying t = some .string
  knd : ∀ k, x.knd = some k → P.underlying t = some (.int k)
theorem mapM_get {α β : Type} (g : α → Option β) : ∀ (l : List α) (m : List β), l.mapM g = some m → ∀ (n : Nat) y, m[n]? = some y → ∃ x, l[n]? = some x ∧ g x = some y
  | [], m, h, n, y, hy => by simp at h; subst h; simp at hy
  | x :: l, m, h, n, y, hy => by
    simp only [List.mapM_cons, Option.bind_eq_bind, Option.pure_def] at h
    obtain ⟨b, hb, h⟩ := Option.bind_eq_some_iff.1 h
    obtain ⟨bs, hbs, h⟩ := Option.bind_eq_some_iff.1 h
    obtain rfl : b :: bs = m := by simpa using h
    cases n with
    | zero => obtain rfl : b = y := by simpa using hy
              exact ⟨x, rfl, hb⟩
    | succ n => exact mapM_get g l bs hbs n y (by simpa using hy)
theorem TypeOK.flds {P : Program} {κ : Nat → KT} {t : TypeId} {x : TI} (h : TypeOK P κ t x) : ∀ (n o s : Nat) g, x.flds[n]? = some (o, s, g) →
    ∃ fs f i d, P.underlying t = some (.struct fs) ∧ fs[n]? = some f ∧ f.offset = o ∧ P.info? f.type = some i ∧ i.size = s ∧ s ≠ 0 ∧ P.underlying f.type = some d ∧ isAggD d = g := by
  intro n o s g hn
  rcases h.fldsA with h0 | ⟨fs, h1, h2, h3, h4⟩
  · rw [h0] at hn; simp at hn
  · obtain ⟨f, hf, hg⟩ := mapM_get _ _ _ h2 n (o, s) (by simp [hn])
    obtain ⟨i, hi, he⟩ := Option.map_eq_some_iff.1 hg
    simp only [Prod.mk.injEq] at he
    have h5 := congrArg (fun l => l[n]?) h3
    simp only [List.getElem?_map, hf, hn, Option.map_some, Option.some.injEq] at h5
    obtain ⟨d, hd, hda⟩ := Option.map_eq_some_iff.1 h5
    exact ⟨fs, f, i, d, h1, by simpa using hf, he.1, hi, he.2, h4 _ (List.mem_of_getElem? hn), hd, hda⟩
section
variable {κ : Nat → KT} {P : Program} {ti : TypeId → Option TI} {Γ : Ct κ}
def G (M : Mu) (H : Hp κ) (w : World) (v : AV) (H' : Hp κ) (c : Value) (w' : World) : Prop := ∃ M', RA M' H' v c ∧ RH M' H' w' ∧ Step M H w M' H' w'
/-- A function does what its contract says. -/
structure CSound (P : Program) (f : FuncId) (g : Nat → List AV → AP κ AV) : Prop where
  enter : ∀ args w, (callFunc f args).run P w = .ok (.enter f args) w
  does : ∀ {R : Type} nm args (cargs : Array Value) (M : Mu) (H : Hp κ) w (K : AV → Hp κ → List Nat → List Nat → Option R) r,
    cargs.size = args.length → (∀ (j : Nat) x c, args[j]? = some x → cargs[j]? = some c → RA M H x c) → RH M H w → (g nm args).run H [] [] K = some r →
    ∃ v H' rs ws, K v H' rs ws = some r ∧ Calls P f cargs w fun e w' => ∃ c, e = .returned c ∧ G M H w v H' c w'
def OpOK (P : Program) (o : Oper) (a : Act) (w : World) (Φ : Value → World → Prop) : Prop :=
  match (execOp a.eval o).run P w with
  | .ok (.value v) w' => Φ v w'
  | .ok .skip w' => Φ undef w'
  | .ok (.enter f args) w' => Calls P f args w' fun e w'' => ∃ c, e = .returned c ∧ Φ c w''
  | _ => False
def Sim {R : Type} (P : Program) (o : Oper) (a : Act) (M : Mu) (H : Hp κ) (w : World) (K : AV → Hp κ → List Nat → List Nat → Option R) (r : R) : Prop :=
  ∃ v H' rs ws, K v H' rs ws = some r ∧ OpOK P o a w (G M H w v H')
theorem OpOK.wp {o : Oper} {a : Act} {w : World} {Φ : Value → World → Prop} {next : Act → World → Prop} {Q : Exit → Act → World → Prop} (h : OpOK P o a w Φ) (hn : ∀ c w', Φ c w' → next (a.put o.dst c) w') : o.wp P a w next Q := by
  unfold OpOK at h
  unfold Oper.wp
  generalize (execOp a.eval o).run P w = r at *
  cases r with
  | halt x w' => exact h.elim
  | ok n w' =>
    cases n <;> simp only at h <;> try exact h.elim
    · exact hn _ _ h
    · exact hn _ _ h
    · exact h.mono fun e w'' ⟨c, he, hc⟩ => by subst he; exact hn _ _ hc
variable {R : Type} {K : AV → Hp κ → List Nat → List Nat → Option R} {r : R} {M : Mu} {H : Hp κ} {w : World} {e : En} {a : Act} {o : Oper} {nm : Nat}
theorem ofVal_RA (v : Value) : RA M H (ofVal v) v := by
  unfold ofVal
  split <;> simp [RA, RL]
theorem evO_RA (hE : RE M H e a.tmps) (x : Operand) : RA M H (evO e x) (a.eval x) := by
  cases x with
  | tmp t => exact hE t
  | const v => exact ofVal_RA v
  | global g => exact trivial
  | func f => exact rfl
theorem G.pure {v : AV} {c : Value} (hH : RH M H w) (hv : RA M H v c) : G M H w v H c w := ⟨M, hv, hH, Step.refl _ _ _⟩
theorem sim_value {v : AV} {rs ws} {c : Value} (hH : RH M H w) (hK : K v H rs ws = some r) (hx : (execOp a.eval o).run P w = .ok (.value c) w) (hv : RA M H v c) : Sim P o a M H w K r :=
  ⟨v, H, rs, ws, hK, by unfold OpOK; rw [hx]; exact G.pure hH hv⟩
theorem sim_move (hE : RE M H e a.tmps) (hH : RH M H w) (x : Operand) (ho : o.op = .move x ∨ o.op = .assign x) (h : (aop ti Γ nm e o.op).run H [] [] K = some r) : Sim P o a M H w K r := by
  have h' : K (evO e x) H [] [] = some r := by rcases ho with ho | ho <;> rw [ho] at h <;> exact h
  refine sim_value (c := a.eval x) hH h' ?_ (evO_RA hE x)
  rcases ho with ho | ho <;> simp [execOp, ho]
theorem sim_pick (hE : RE M H e a.tmps) (hH : RH M H w) (c x y : Operand) (ho : o.op = .pick c x y) (h : (aop ti Γ nm e o.op).run H [] [] K = some r) : Sim P o a M H w K r := by
  rw [ho] at h
  have hc := evO_RA hE c
  simp only [aop] at h
  split at h
  · rename_i q hq
    rw [hq] at hc
    have hc' : a.eval c = .bool q := hc
    simp only [AP.run] at h
    cases q with
    | true => exact sim_value hH h (by simp [execOp, ho, hc', asBool]) (evO_RA hE x)
    | false => exact sim_value hH h (by simp [execOp, ho, hc', asBool]) (evO_RA hE y)
  · simp [AP.run] at h

/-! new blocks -/
def updM (M : Mu) (b : Nat) (v : Value) : Mu := fun n => bif Nat.beq n b then v else M n
theorem updM_same (b : Nat) (v : Value) : updM M b v b = v := by simp [updM]
theorem beqN {n b : Nat} (h : n ≠ b) : Nat.beq n b = false := by
  cases hh : Nat.beq n b with
  | false => rfl
  | true => exact absurd (Nat.eq_of_beq_eq_true hh) h
theorem updM_ne {b n : Nat} (h : n ≠ b) (v : Value) : updM M b v n = M n := by simp [updM, beqN h]
theorem updH_same (b : Nat) (x : Blk κ) : updH H b x b = x := by simp [updH]
theorem updH_ne {b n : Nat} (h : n ≠ b) (x : Blk κ) : updH H b x n = H n := by simp [updH, beqN h]
theorem keep_new {b : Nat} (hf : H b = .fresh) (x : Blk κ) (v : Value) : ∀ y c, RL M H y c → RL (updM M b v) (updH H b x) y c := by
  intro y c h
  cases y <;> try exact h
  · rename_i n
    have hn : n ≠ b := by rintro rfl; simp [RL, hf] at h
    simpa [RL, updH_ne hn, updM_ne hn] using h
  · rename_i n i j
    have hn : n ≠ b := by rintro rfl; simp [RL, hf] at h
    simpa [RL, updH_ne hn, updM_ne hn] using h
/-- A new block, of the machine's next number or without memory of its own. -/
theorem new_block (hκ : ∀ k, (κ k).Ok) {w' : World} {b : Nat} (hf : H b = .fresh) (x : Blk κ) (v : Value) (hH : RH M H w) (gr : w.grownBy w' none) (gd : w.drawn ≤ w'.drawn)
    (hb' : RB (updM M b v) (updH H b x) w' b x) (hg : ∀ g, hb v = some g → w.heap.size ≤ g) :
    RH (updM M b v) (updH H b x) w' ∧ Step M H w (updM M b v) (updH H b x) w' := by
  refine change hκ (fun n => n = b) hH gr gd (by simp) (fun n hn => ⟨updH_ne hn x, updM_ne hn v⟩) (keep_new hf x v) (fun n hn => ?_) (fun n g hn hfg => ?_) (fun n n' g hn hn' hne => absurd (hn.trans hn'.symm) hne) (fun n hn hne => by subst hn; exact absurd hf hne) (fun n hn => by subst hn; rw [hf]; trivial)
  · subst hn; rw [updH_same]; exact hb'
  · subst hn
    left
    unfold ft at hfg
    rw [updH_same, updM_same] at hfg
    cases x with
    | fresh => cases hfg
    | dead => cases hfg
    | cells ty cs => exact hg g hfg
    | rows k own l =>
      cases own
      · simp only at hfg; split at hfg
        · cases hfg
        · exact hg g hfg
      · exact hg g hfg
theorem new_cells (hκ : ∀ k, (κ k).Ok) {b : Nat} (hf : H b = .fresh) (ty : TypeId) (cs : List LV) (arr : Array Value) (hH : RH M H w) (hr : RLs M H cs arr.toList) :
    G M H w (.v (.ptr b 0 0)) (updH H b (.cells ty cs)) (.pointer (some ⟨w.heap.size, 0, none⟩)) (w.alloc (.cells arr ty)) := by
  have hk := keep_new (M := M) hf (.cells ty cs) (.pointer (some ⟨w.heap.size, 0, none⟩))
  have h := new_block hκ hf (.cells ty cs) (.pointer (some ⟨w.heap.size, 0, none⟩)) hH (World.grownBy_alloc w (.cells arr ty) none) (Nat.le_refl _)
    ⟨w.heap.size, arr, updM_same _ _, heap_alloc_new w _, keepLs hk hr⟩ (by simp [hb])
  refine ⟨_, ?_, h.1, h.2⟩
  simp only [RA, RL, updH_same]
  exact ⟨trivial, w.heap.size, updM_same _ _, rfl⟩
theorem new_rows (hκ : ∀ k, (κ k).Ok) {w' : World} {b : Nat} (hf : H b = .fresh) (k : Nat) (l : List (κ k).T) (v : Value) (hH : RH M H w) (gr : w.grownBy w' none) (gd : w.drawn ≤ w'.drawn)
    (ho : w'.ownsRow 0 (κ k).ty (κ k).sz v l.length (flat (κ k) l)) (hg : ∀ g, hb v = some g → w.heap.size ≤ g) :
    G M H w (.v (.sl b)) (updH H b (.rows k true l)) v w' := by
  have h := new_block hκ hf (.rows k true l) v hH gr gd (by show w'.ownsRow 0 _ _ (updM M b v b) _ _; rw [updM_same]; exact ho) hg
  refine ⟨_, ?_, h.1, h.2⟩
  simp only [RA, RL, updH_same, updM_same]
theorem run_newBlk {x : Blk κ} {p : AP κ AV} {rs ws} (h : (newBlk nm x p).run H rs ws K = some r) : H nm = .fresh ∧ p.run (updH H nm x) (nm :: rs) (nm :: ws) K = some r := by
  unfold newBlk at h
  simp only [AP.run] at h
  split at h
  · rename_i hf
    exact ⟨hf, h⟩
  · simp [AP.run] at h
theorem sc0_RLs {cs : List LV} {vs : List Value} (h : ∀ v ∈ cs, v.sc0 = true) (e' : vs = cs.map LV.val) : RLs M H cs vs := by
  subst e'
  refine ⟨by simp, fun j x c h1 h2 => ?_⟩
  rw [List.getElem?_map, h1] at h2
  simp at h2
  subst h2
  exact sc0_RL (h x (List.mem_of_getElem? h1))
theorem sim_alloc (hκ : ∀ k, (κ k).Ok) (tok : ∀ t x, ti t = some x → TypeOK P κ t x) (hH : RH M H w) (t : TypeId) (ho : o.op = .alloc t) (h : (aop ti Γ nm e o.op).run H [] [] K = some r) : Sim P o a M H w K r := by
  rw [ho] at h
  simp only [aop] at h
  split at h
  · rename_i i hi
    obtain ⟨hf, h⟩ := run_newBlk h
    obtain ⟨ii, d, z, h1, h2, h3, h4, h5, h6⟩ := (tok t i hi).ex
    refine ⟨_, _, _, _, h, ?_⟩
    unfold OpOK
    have hx : (execOp a.eval o).run P w = .ok (.value (.pointer (some ⟨w.heap.size, 0, none⟩))) (w.alloc (.cells z.cells t)) := by
      simp [execOp, ho, Instr.alloc, zeroValue, typeInfo, h1, h5, newVar, newRow]
    rw [hx]
    exact new_cells hκ hf t i.zero z.cells hH (sc0_RLs (tok t i hi).z0 h6)
  · simp [AP.run] at h
theorem oneCell_cells {c : Value} (h : c.oneCell' = true) : c.cells = #[c] := by cases c <;> simp [Value.oneCell', Value.cells] at *
theorem RL_one (hH : RH M H w) {x : LV} {c : Value} (hx : x.one = true) (h : RL M H x c) : c.oneCell' = true := by
  cases x with
  | int k n => obtain rfl : c = _ := h; rfl
  | bool b => obtain rfl : c = _ := h; rfl
  | str s => obtain rfl : c = _ := h; rfl
  | nilsl => obtain rfl : c = _ := h; rfl
  | any => cases hx
  | fn g => obtain rfl : c = _ := h; rfl
  | sl b =>
    have hb' := hH.blk b
    simp only [RL] at h
    cases hk : H b with
    | fresh => rw [hk] at h; exact h.elim
    | dead => rw [hk] at h; exact h
    | cells ty cs => rw [hk] at h; exact h.elim
    | rows k own l =>
      rw [hk] at h hb'
      obtain rfl : c = M b := h
      cases own
      · obtain ⟨A, c, h1, _⟩ := hb'; rw [h1]; rfl
      · rcases (show w.ownsRow 0 _ _ (M b) _ _ from hb').2 with ⟨h1, _⟩ | ⟨g, cap, cur, h1, _⟩ <;> rw [h1] <;> rfl
  | ptr b i j =>
    simp only [RL] at h
    cases hk : H b with
    | fresh => rw [hk] at h; exact h.elim
    | dead => rw [hk] at h; exact h
    | cells ty cs => rw [hk] at h; obtain ⟨_, g, _, rfl⟩ := h; rfl
    | rows k own l => rw [hk] at h; obtain ⟨_, a, n, cap, _, rfl⟩ := h; rfl
theorem allOne_mem : ∀ {cs : List LV}, allOne cs = true → ∀ x ∈ cs, x.one = true
  | [], _, x, hx => by cases hx
  | c :: cs, h, x, hx => by
    simp only [allOne, Bool.and_eq_true] at h
    cases hx with
    | head => exact h.1
    | tail _ hx => exact allOne_mem h.2 x hx
theorem RLs_one (hH : RH M H w) {cs : List LV} {vs : List Value} (hc : allOne cs = true) (h : RLs M H cs vs) : ∀ v ∈ vs, v.oneCell' = true := by
  intro v hv
  obtain ⟨j, hj⟩ := List.mem_iff_getElem?.1 hv
  have hlt : j < cs.length := by have := (List.getElem?_eq_some_iff.1 hj).1; have := h.1; omega
  exact RL_one hH (allOne_mem hc _ (List.getElem_mem hlt)) (h.2 j _ v (List.getElem?_eq_getElem hlt) hj)
theorem AV.one_cells {x : AV} (h : x.one = true) : allOne x.cells = true := by cases x <;> simp [AV.one, AV.cells, allOne] at * <;> exact h
theorem RA_cells (hH : RH M H w) {x : AV} {c : Value} (h : RA M H x c) (hc : x.one = true) : RLs M H x.cells c.cells.toList := by
  cases x with
  | v y =>
    rw [oneCell_cells (RL_one hH hc h)]
    refine ⟨rfl, fun j x' c' h1 h2 => ?_⟩
    cases j with
    | zero =>
      simp [AV.cells] at h1 h2
      subst h1; subst h2
      exact h
    | succ j => simp [AV.cells] at h1
  | agg cs =>
    obtain ⟨arr, rfl, h2⟩ := h
    exact h2
  | tup ps => cases hc
theorem sim_box (hκ : ∀ k, (κ k).Ok) (hE : RE M H e a.tmps) (hH : RH M H w) (t : TypeId) (x : Operand) (ho : o.op = .box t x) (h : (aop ti Γ nm e o.op).run H [] [] K = some r) : Sim P o a M H w K r := by
  rw [ho] at h
  have hx := evO_RA hE x
  simp only [aop] at h
  cases hc : (evO e x).one with
  | false => rw [hc] at h; simp [AP.run] at h
  | true =>
    rw [hc] at h
    obtain ⟨hf, h⟩ := run_newBlk h
    refine ⟨_, _, _, _, h, ?_⟩
    unfold OpOK
    have hx' : (execOp a.eval o).run P w = .ok (.value (.pointer (some ⟨w.heap.size, 0, none⟩))) (w.alloc (.cells (a.eval x).cells t)) := by
      simp [execOp, ho, Instr.box, newVar, newRow]
    rw [hx']
    exact new_cells hκ hf t _ _ hH (RA_cells hH hx hc)
end
end Go.Eng

/- Each operation of the machine does what the abstract run says: loads, stores, addresses. -/
set_option linter.unusedVariables false
set_option linter.unusedSimpArgs false
namespace Go.Eng
open Go
section
variable {κ : Nat → KT} {P : Program} {ti : TypeId → Option TI} {Γ : Ct κ}
variable {R : Type} {K : AV → Hp κ → List Nat → List Nat → Option R} {r : R} {M : Mu} {H : Hp κ} {w : World} {e : En} {a : Act} {o : Oper} {nm : Nat}
theorem add_add (ad : Addr) (m j : Nat) : (ad.add m).add j = ad.add (m + j) := by
  unfold Addr.add
  by_cases hm : m = 0
  · subst hm; simp
  · by_cases hj : j = 0
    · subst hj; simp [hm]
    · have h2 : ¬ (m + j = 0) := by omega
      simp [hm, hj, h2, Nat.add_assoc]
theorem add_lit (g i j : Nat) : (⟨g, i, none⟩ : Addr).add j = ⟨g, i + j, none⟩ := by
  unfold Addr.add
  split
  · rename_i h; simp [h]
  · rfl
theorem partV_some {y : TI} {xs : List LV} {v : AV} (h : partV y xs = some v) : (xs.take y.size).length = y.size ∧ ((y.agg = true ∧ v = .agg (xs.take y.size)) ∨ (y.agg = false ∧ ∃ x, xs.take y.size = [x] ∧ v = .v x)) := by
  unfold partV at h
  simp only at h
  cases h1 : Nat.beq (xs.take y.size).length y.size with
  | false => rw [h1] at h; simp at h
  | true =>
    rw [h1] at h
    refine ⟨Nat.eq_of_beq_eq_true h1, ?_⟩
    cases h2 : y.agg with
    | true => rw [h2] at h; left; simp at h; exact ⟨rfl, h.symm⟩
    | false =>
      rw [h2] at h
      right
      refine ⟨rfl, ?_⟩
      simp only [cond_true, cond_false] at h
      split at h
      · rename_i x hx
        exact ⟨x, hx, by simpa using h.symm⟩
      · cases h
theorem run_loadVar_list {t : TypeId} {y : TI} (ht : TypeOK P κ t y) (ad : Addr) (vs : List Value) (hl : vs.length = y.size) (hc : ∀ (j : Nat) u, vs[j]? = some u → w.cell? (ad.add j) = some u) :
    (y.agg = true → (loadVar t ad).run P w = .ok (.agg vs.toArray) w) ∧ (∀ u, y.agg = false → vs = [u] → (loadVar t ad).run P w = .ok u w) := by
  obtain ⟨i, d, z, h1, h2, h3, h4, _⟩ := ht.ex
  constructor
  · intro ha
    have hd : (isAgg t).run P w = .ok true w := by
      rw [ha] at h4
      cases d <;> simp [isAggD] at h4 <;> simp [isAgg, run_underlying h2]
    have hs : (sizeOf t).run P w = .ok vs.length w := by simp [sizeOf, typeInfo, h1, h3, hl]
    simp [loadVar, hd, hs, run_loadCells_list w ad vs hc]
  · rintro u ha rfl
    have hd : (isAgg t).run P w = .ok false w := by
      rw [ha] at h4
      cases d <;> simp [isAggD] at h4 <;> simp [isAgg, run_underlying h2]
    have h0 := hc 0 u rfl
    have e0 : ad.add 0 = ad := by simp [Addr.add]
    rw [e0] at h0
    simp [loadVar, hd, h0]
theorem RLs_sub {cs : List LV} {vs : List Value} (h : RLs M H cs vs) (j n : Nat) : RLs M H ((cs.drop j).take n) ((vs.drop j).take n) := by
  refine ⟨by simp [h.1], fun i x c h1 h2 => ?_⟩
  rw [List.getElem?_take] at h1 h2
  split at h1
  · rename_i hi
    rw [if_pos hi] at h2
    rw [List.getElem?_drop] at h1 h2
    exact h.2 _ _ _ h1 h2
  · cases h1
theorem RA_part {y : TI} {xs : List LV} {vs : List Value} {v : AV} (hp : partV y xs = some v) (h : RLs M H (xs.take y.size) vs) :
    (y.agg = true ∧ RA M H v (.agg vs.toArray)) ∨ (y.agg = false ∧ ∃ u, vs = [u] ∧ RA M H v u) := by
  obtain ⟨h1, h2⟩ := partV_some hp
  rcases h2 with ⟨h2, rfl⟩ | ⟨h2, x, h3, rfl⟩
  · exact .inl ⟨h2, vs.toArray, rfl, by simpa using h⟩
  · rw [h3] at h
    obtain ⟨u, rfl⟩ : ∃ u, vs = [u] := List.length_eq_one_iff.1 (by simpa using h.1)
    exact .inr ⟨h2, u, rfl, h.2 0 x u rfl rfl⟩
/-- The machine's cells behind a slice. -/
theorem rows_cells (hκ : ∀ k, (κ k).Ok) {b k : Nat} {own : Bool} {l : List (κ k).T} (h : RB M H w b (.rows k own l)) (hl : 0 < l.length) :
    ∃ ad n cap, M b = .slice (some ad) n cap ∧ ∀ (j : Nat) u, (flat (κ k) l)[j]? = some u → w.cell? (ad.add j) = some u := by
  cases own with
  | true =>
    have h1 : w.ownsRow 0 (κ k).ty (κ k).sz (M b) l.length (flat (κ k) l) := h
    rcases h1.2 with ⟨_, h2⟩ | ⟨g, cap, cur, h2, h3⟩
    · omega
    · exact ⟨⟨g, 0, none⟩, _, _, h2, h1.cells (by rw [h2]; rfl)⟩
  | false =>
    obtain ⟨A, c, h1, h2, h2', h3⟩ := h
    obtain ⟨ad, rfl, h4⟩ := h3 hl
    exact ⟨ad, _, _, h1, h4⟩
theorem getD_some {α : Type} {l : List α} {i : Nat} (h : i < l.length) (z : α) : l[i]? = some (l.getD i z) := by
  rw [List.getD_eq_getElem?_getD, List.getElem?_eq_getElem h]; rfl
theorem vals_RLs {cs : List LV} (h : ∀ v ∈ cs, v.sc = true) : RLs M H cs (cs.map LV.val) := by
  refine ⟨by simp, fun j x c h1 h2 => ?_⟩
  rw [List.getElem?_map, h1] at h2
  simp at h2
  subst h2
  exact sc_RL (h x (List.mem_of_getElem? h1))
theorem run_retO {α : Type} {x : Option α} {rs ws} {K : α → Hp κ → List Nat → List Nat → Option R} (h : (retO (κ := κ) x).run H rs ws K = some r) : ∃ v, x = some v ∧ K v H rs ws = some r := by
  cases x with
  | none => simp [retO, AP.run] at h
  | some v => exact ⟨v, rfl, h⟩
theorem sim_load (hκ : ∀ k, (κ k).Ok) (tok : ∀ t x, ti t = some x → TypeOK P κ t x) (hE : RE M H e a.tmps) (hH : RH M H w) (t : TypeId) (x : Operand) (ho : o.op = .load t x) (h : (aop ti Γ nm e o.op).run H [] [] K = some r) : Sim P o a M H w K r := by
  rw [ho] at h
  have hx := evO_RA hE x
  simp only [aop] at h
  split at h
  · rename_i b i j y hxe hty
    rw [hxe] at hx
    have hx : RL M H (.ptr b i j) (a.eval x) := hx
    have htk := tok t y hty
    have hbk := hH.blk b
    simp only [AP.run] at h
    simp only [RL] at hx
    split at h
    · rename_i ty cs hb'
      obtain ⟨v, hv, hK⟩ := run_retO h
      rw [hb'] at hx hbk
      obtain ⟨rfl, g, hg, hc⟩ := hx
      obtain ⟨g', arr, h1, h2, h3⟩ := hbk
      rw [hg] at h1
      obtain rfl : g = g' := by simpa using h1
      have hsub := RLs_sub h3 j y.size
      have hcell : ∀ (n : Nat) u, ((arr.toList.drop j).take y.size)[n]? = some u → w.cell? ((⟨g, j, none⟩ : Addr).add n) = some u := by
        intro n u hn
        rw [List.getElem?_take] at hn
        split at hn
        · rw [List.getElem?_drop] at hn
          rw [add_lit, cell_of_row w g (j + n) arr ty (0, 0) h2]
          simpa using hn
        · cases hn
      have hlen : ((arr.toList.drop j).take y.size).length = y.size := by rw [hsub.1]; exact (partV_some hv).1
      have hrun := run_loadVar_list (w := w) htk ⟨g, j, none⟩ _ hlen hcell
      rcases RA_part hv hsub with ⟨ha, hr⟩ | ⟨ha, u, hu, hr⟩
      · exact sim_value hH hK (by simp [execOp, ho, hc, Instr.loadAt, Instr.sureAddr, hrun.1 ha]) hr
      · exact sim_value hH hK (by simp [execOp, ho, hc, Instr.loadAt, Instr.sureAddr, hrun.2 u ha hu]) hr
    · rename_i k own l hb'
      obtain ⟨v, hv, hK⟩ := run_retO h
      rw [hb'] at hx hbk
      obtain ⟨hi, ad, n, cap, hm, hc⟩ := hx
      obtain ⟨ad', n', cap', hm', hcells⟩ := rows_cells hκ hbk (by omega)
      rw [hm] at hm'
      obtain ⟨rfl, rfl, rfl⟩ : ad = ad' ∧ n = n' ∧ cap = cap' := by simpa using hm'
      have hxs := getD_some hi (κ k).zero
      generalize hxx : l.getD i (κ k).zero = xx at hxs hv
      have hsub : RLs M H ((((κ k).enc xx).drop j).take y.size) ((((κ k).enc xx).map LV.val).drop j |>.take y.size) := RLs_sub (vals_RLs (fun v hv => (hκ k).sc xx v hv)) j y.size
      have hcell : ∀ (n : Nat) u, ((((κ k).enc xx).map LV.val).drop j |>.take y.size)[n]? = some u → w.cell? ((ad.add (i * (κ k).sz + j)).add n) = some u := by
        intro n u hn
        rw [List.getElem?_take] at hn
        split at hn
        · rw [List.getElem?_drop] at hn
          rw [add_add, Nat.add_assoc]
          refine hcells _ _ ?_
          have hjn : j + n < (κ k).sz := by
            have := (List.getElem?_eq_some_iff.1 hn).1
            simpa [(hκ k).len] using this
          rw [flat_get (κ k) (hκ k) l i xx hxs (j + n) hjn]
          rwa [List.getElem?_map] at hn
        · cases hn
      have hlen : ((((κ k).enc xx).map LV.val).drop j |>.take y.size).length = y.size := by rw [hsub.1]; exact (partV_some hv).1
      have hrun := run_loadVar_list (w := w) htk (ad.add (i * (κ k).sz + j)) _ hlen hcell
      rcases RA_part hv hsub with ⟨ha, hr⟩ | ⟨ha, u, hu, hr⟩
      · exact sim_value hH hK (by simp [execOp, ho, hc, Instr.loadAt, Instr.sureAddr, hrun.1 ha]) hr
      · exact sim_value hH hK (by simp [execOp, ho, hc, Instr.loadAt, Instr.sureAddr, hrun.2 u ha hu]) hr
    · simp [AP.run] at h
  · simp [AP.run] at h
theorem sim_nilCheck (hE : RE M H e a.tmps) (hH : RH M H w) (x : Operand) (ho : o.op = .nilCheck x) (h : (aop ti Γ nm e o.op).run H [] [] K = some r) : Sim P o a M H w K r := by
  rw [ho] at h
  have hx := evO_RA hE x
  simp only [aop] at h
  split at h
  · rename_i b i j hxe
    rw [hxe] at hx
    have hx0 := hx
    have hx : RL M H (.ptr b i j) (a.eval x) := hx
    simp only [AP.run] at h
    simp only [RL] at hx
    split at h
    · rename_i ty cs hb'
      rw [hb'] at hx
      obtain ⟨rfl, g, hg, hc⟩ := hx
      exact sim_value hH h (by simp [execOp, ho, hc]) (hc ▸ hx0)
    · rename_i k own l hb'
      rw [hb'] at hx
      obtain ⟨hi, ad, n, cap, hm, hc⟩ := hx
      exact sim_value hH h (by simp [execOp, ho, hc]) (hc ▸ hx0)
    · simp [AP.run] at h
  · simp [AP.run] at h
theorem sim_fieldAddr (tok : ∀ t x, ti t = some x → TypeOK P κ t x) (hE : RE M H e a.tmps) (hH : RH M H w) (t : TypeId) (x : Operand) (f : Nat) (ho : o.op = .fieldAddr t x f) (h : (aop ti Γ nm e o.op).run H [] [] K = some r) : Sim P o a M H w K r := by
  rw [ho] at h
  have hx := evO_RA hE x
  simp only [aop] at h
  split at h
  · rename_i b i j y hxe hty
    rw [hxe] at hx
    have hx : RL M H (.ptr b i j) (a.eval x) := hx
    split at h
    · rename_i of n g hfl
      obtain ⟨fs, fd, fi, d, h1, h2, h3, h4, h5, h6, h7, h8⟩ := (tok t y hty).flds f of n g hfl
      have hrun : ∀ ad : Addr, a.eval x = .pointer (some ad) → (execOp a.eval o).run P w = .ok (.value (.pointer (some (ad.add of)))) w := by
        intro ad had
        have hn : ¬ (fi.size = 0) := by omega
        simp [execOp, ho, had, Instr.fieldAt, run_underlying h1, h2, Instr.sureAddr, fieldPlace, sizeOf, typeInfo, h4, hn, h3]
      simp only [AP.run] at h
      simp only [RL] at hx
      split at h
      · rename_i ty cs hb'
        rw [hb'] at hx
        obtain ⟨rfl, g, hg, hc⟩ := hx
        refine sim_value hH h (hrun _ hc) ?_
        simp only [RA, RL, hb', add_lit]
        exact ⟨trivial, g, hg, rfl⟩
      · rename_i k own l hb'
        rw [hb'] at hx
        obtain ⟨hi, ad, n, cap, hm, hc⟩ := hx
        refine sim_value hH h (hrun _ hc) ?_
        simp only [RA, RL, hb', add_add, Nat.add_assoc]
        exact ⟨hi, ad, n, cap, hm, rfl⟩
      · simp [AP.run] at h
    · simp [AP.run] at h
  · simp [AP.run] at h
theorem sim_indexAddr (hκ : ∀ k, (κ k).Ok) (tok : ∀ t x, ti t = some x → TypeOK P κ t x) (hE : RE M H e a.tmps) (hH : RH M H w) (t : TypeId) (x ix : Operand) (ho : o.op = .indexAddr t x ix) (h : (aop ti Γ nm e o.op).run H [] [] K = some r) : Sim P o a M H w K r := by
  rw [ho] at h
  have hx := evO_RA hE x
  have hi := evO_RA hE ix
  simp only [aop] at h
  split at h
  · rename_i b i y hxe hie hty
    rw [hxe] at hx
    rw [hie] at hi
    have hx : RL M H (.sl b) (a.eval x) := hx
    have hi : a.eval ix = .int .i64 i := hi
    have hbk := hH.blk b
    split at h
    · rename_i k' hk'
      obtain ⟨h1, inf, z, h2, h3, _⟩ := (tok t y hty).slk k' hk'
      simp only [AP.run] at h
      simp only [RL] at hx
      split at h
      · rename_i k own l hb'
        rw [hb'] at hx hbk
        cases hkk : Nat.beq k k' with
        | false => rw [hkk] at h; simp [AP.run] at h
        | true =>
          obtain rfl := Nat.eq_of_beq_eq_true hkk
          rw [hkk] at h
          simp only [cond_true, AP.run] at h
          by_cases c1 : 0 ≤ i
          · simp only [c1, decide_true, cond_true] at h
            by_cases c2 : i < (l.length : Int)
            · simp only [c2, decide_true, cond_true] at h
              obtain ⟨ad, n, cap, hm, hcells⟩ := rows_cells hκ hbk (by omega)
              have hn : n = l.length := by
                cases own with
                | true =>
                  rcases (show w.ownsRow 0 _ _ (M b) _ _ from hbk).2 with ⟨h4, _⟩ | ⟨g, cap', cur, h4, _⟩ <;> rw [hm] at h4
                  · cases h4
                  · injection h4
                | false =>
                  obtain ⟨A, c, h4, _⟩ := hbk
                  rw [hm] at h4
                  injection h4
              subst hn
              refine sim_value (c := .pointer (some (ad.add (i.toNat * (κ k).sz)))) hH h ?_ ?_
              · simp [execOp, ho, hx, hm, hi, Instr.indexAt, asIntOf, run_underlying h1, sizeOf, typeInfo, h2, h3, c1, c2]
              · simp only [RA, RL, hb']
                exact ⟨by omega, ad, _, cap, hm, rfl⟩
            · simp [c2] at h
          · simp [c1] at h
      · simp [AP.run] at h
    · simp [AP.run] at h
  · simp [AP.run] at h
end
end Go.Eng

/- Each operation of the machine does what the abstract run says: stores, structs, literals. -/
set_option linter.unusedVariables false
set_option linter.unusedSimpArgs false
namespace Go.Eng
open Go
section
variable {κ : Nat → KT} {P : Program} {ti : TypeId → Option TI} {Γ : Ct κ}
variable {R : Type} {K : AV → Hp κ → List Nat → List Nat → Option R} {r : R} {M : Mu} {H : Hp κ} {w : World} {e : En} {a : Act} {o : Oper} {nm : Nat}
theorem grownBy_setRow (w : World) (g : Nat) (cs : Array Value) : w.grownBy (w.setRow g cs) (some g) :=
  ⟨rfl, rfl, rfl, by simp, fun k _ hk => setRow_other w g k cs (fun e => hk (by rw [e]))⟩
theorem RLs_splice {cs xs : List LV} {vs us : List Value} (h : RLs M H cs vs) (h2 : RLs M H xs us) (j : Nat) (hj : j + xs.length ≤ cs.length) :
    RLs M H (splice cs j xs) (vs.take j ++ us ++ vs.drop (j + us.length)) := by
  have hl := h.1
  have hl2 := h2.1
  refine ⟨by simp [splice, hl, hl2], fun i x c h3 h4 => ?_⟩
  unfold splice at h3
  rw [List.append_assoc] at h3 h4
  rw [List.getElem?_append] at h3 h4
  have e1 : (cs.take j).length = j := by rw [List.length_take]; omega
  have e2 : (vs.take j).length = j := by rw [List.length_take]; omega
  rw [e1] at h3; rw [e2] at h4
  by_cases c1 : i < j
  · rw [if_pos c1, List.getElem?_take, if_pos c1] at h3 h4
    exact h.2 i x c h3 h4
  · rw [if_neg c1] at h3 h4
    rw [List.getElem?_append] at h3 h4
    by_cases c2 : i - j < xs.length
    · rw [if_pos c2] at h3
      rw [if_pos (by omega)] at h4
      exact h2.2 _ x c h3 h4
    · rw [if_neg c2, List.getElem?_drop] at h3
      rw [if_neg (by omega), List.getElem?_drop] at h4
      have e3 : j + xs.length + (i - j - xs.length) = i := by omega
      have e4 : j + us.length + (i - j - us.length) = i := by omega
      rw [e3] at h3; rw [e4] at h4
      exact h.2 i x c h3 h4
theorem splice_take (L vs : List Value) (p N : Nat) (h : p + vs.length ≤ N) (hN : N ≤ L.length) :
    (L.take p ++ vs ++ L.drop (p + vs.length)).take N = (L.take N).take p ++ vs ++ (L.take N).drop (p + vs.length) := by
  have e1 : (L.take p).length = p := by rw [List.length_take]; omega
  rw [List.take_append, List.take_append, e1, List.length_append, e1, List.take_take, List.take_take, List.drop_take]
  have e2 : min N p = p := by omega
  have e3 : min p N = p := by omega
  rw [e2, e3, List.take_of_length_le (l := vs) (by omega)]
theorem RLs_vals {cs : List LV} {vs : List Value} (h : RLs M H cs vs) (hs : ∀ v ∈ cs, v.sc = true) : vs = cs.map LV.val := by
  refine List.ext_getElem? fun j => ?_
  rw [List.getElem?_map]
  by_cases hj : j < cs.length
  · have h1 := List.getElem?_eq_getElem hj
    have h2 := List.getElem?_eq_getElem (l := vs) (i := j) (by have := h.1; omega)
    rw [h1, h2]
    simp only [Option.map_some, Option.some.injEq]
    exact RL_sc (hs _ (List.getElem_mem hj)) (h.2 j _ _ h1 h2)
  · rw [List.getElem?_eq_none (by have := h.1; omega), List.getElem?_eq_none (by omega)]; rfl
theorem keep_cells {b : Nat} {ty ty' : TypeId} {cs cs' : List LV} (hb' : H b = .cells ty cs) : ∀ y c, RL M H y c → RL M (updH H b (.cells ty' cs')) y c := by
  intro y c h
  cases y <;> try exact h
  · rename_i n
    by_cases hn : n = b
    · subst hn; simp [RL, hb'] at h
    · simpa [RL, updH_ne hn] using h
  · rename_i n i j
    by_cases hn : n = b
    · subst hn; simpa [RL, hb', updH_same] using h
    · simpa [RL, updH_ne hn] using h
theorem keep_rows {b k : Nat} {own own' : Bool} {l l' : List (κ k).T} (hb' : H b = .rows k own l) (hl : l'.length = l.length) : ∀ y c, RL M H y c → RL M (updH H b (.rows k own' l')) y c := by
  intro y c h
  cases y <;> try exact h
  · rename_i n
    by_cases hn : n = b
    · subst hn; simpa [RL, hb', updH_same] using h
    · simpa [RL, updH_ne hn] using h
  · rename_i n i j
    by_cases hn : n = b
    · subst hn; simpa [RL, hb', updH_same, hl] using h
    · simpa [RL, updH_ne hn] using h
/-- One owned block is written in place. -/
theorem set_block (hκ : ∀ k, (κ k).Ok) {w' : World} {b g : Nat} (x : Blk κ) (hH : RH M H w) (ho : ownB (H b) = true) (hg : ft M H b = some g) (gr : w.grownBy w' (some g)) (gd : w.drawn ≤ w'.drawn)
    (hk : ∀ y c, RL M H y c → RL M (updH H b x) y c) (hb' : RB M (updH H b x) w' b x) (hf : ∀ g', ft M (updH H b x) b = some g' → g' = g) (hx : BS (H b) x) :
    RH M (updH H b x) w' ∧ Step M H w M (updH H b x) w' := by
  refine change hκ (fun n => n = b) hH gr gd (fun g' e => ⟨b, rfl, ho, by simpa using (hg.trans e)⟩) (fun n hn => ⟨updH_ne hn x, rfl⟩) hk (fun n hn => ?_) (fun n g' hn hfg => ?_) (fun n n' g hn hn' hne => absurd (hn.trans hn'.symm) hne) (fun n hn _ => rfl) (fun n hn => by subst hn; rw [updH_same]; exact hx)
  · subst hn; rw [updH_same]; exact hb'
  · subst hn
    obtain rfl := hf g' hfg
    exact .inr ⟨n, rfl, hg, fun _ => ho⟩
theorem allOne_of_beq {p q : Bool} (h : (p && q) = true) : p = true ∧ q = true := by simpa using h
theorem sim_store (hκ : ∀ k, (κ k).Ok) (tok : ∀ t x, ti t = some x → TypeOK P κ t x) (hE : RE M H e a.tmps) (hH : RH M H w) (t : TypeId) (x v : Operand) (ho : o.op = .store t x v) (h : (aop ti Γ nm e o.op).run H [] [] K = some r) : Sim P o a M H w K r := by
  rw [ho] at h
  have hx := evO_RA hE x
  have hv := evO_RA hE v
  simp only [aop] at h
  split at h
  · rename_i b i j y hxe hty
    rw [hxe] at hx
    have hx : RL M H (.ptr b i j) (a.eval x) := hx
    have htk := tok t y hty
    have hbk := hH.blk b
    cases hc0 : (Nat.beq (evO e v).cells.length y.size && (evO e v).one) with
    | false => rw [hc0] at h; simp [AP.run] at h
    | true =>
      obtain ⟨hc1, hc2⟩ := allOne_of_beq hc0
      have hc1 := Nat.eq_of_beq_eq_true hc1
      rw [hc0] at h
      simp only [cond_true, AP.run] at h
      simp only [RL] at hx
      obtain ⟨inf, d, z, t1, t2, t3, t4, _⟩ := htk.ex
      have hcells := RA_cells hH hv hc2
      have hone := RLs_one hH (AV.one_cells hc2) hcells
      generalize hvs : (a.eval v).cells.toList = vs at hcells hone
      have hlen := hcells.1
      have hsz : (a.eval v).cells.size = inf.size := by rw [t3, ← hc1, ← hlen, ← hvs]; simp
      have hrun : ∀ (g p : Nat) (ty : TypeId) (arr : Array Value), a.eval x = .pointer (some ⟨g, p, none⟩) → w.heap[g]? = some (.cells arr ty (0, 0)) → p + vs.length ≤ arr.size →
          (execOp a.eval o).run P w = .ok .skip (w.setRow g (arr.toList.take p ++ vs ++ arr.toList.drop (p + vs.length)).toArray) := by
        intro g p ty arr hc h2 hle
        have hst := run_storeCells_at P g p ty vs 0 arr w h2 (by omega) hone
        simp only [Nat.add_zero] at hst
        simp only [execOp, ho, hc, Instr.storeAt, Instr.sureAddr, storeVar, sizeOf, typeInfo, Sem.run_bind, Sem.run_pure, run_program, Result.andThen_ok, t1, hsz, ne_eq, not_true_eq_false, if_false, hvs, hst]
      split at h
      · rename_i ty cs hb'
        rw [hb'] at hx hbk
        obtain ⟨rfl, g, hg, hc⟩ := hx
        obtain ⟨g', arr, h1, h2, h3⟩ := hbk
        rw [hg] at h1
        obtain rfl : g = g' := by simpa using h1
        cases hle : Nat.ble (j + y.size) cs.length with
        | false => rw [hle] at h; simp [AP.run] at h
        | true =>
          rw [hle] at h
          have hle := Nat.le_of_ble_eq_true hle
          simp only [cond_true, AP.run] at h
          have harr : arr.toList.length = cs.length := h3.1
          have hrl : RLs M H (splice cs j (evO e v).cells) (arr.toList.take j ++ vs ++ arr.toList.drop (j + vs.length)) := RLs_splice h3 hcells j (by omega)
          have hk := keep_cells (M := M) (ty' := ty) (cs' := splice cs j (evO e v).cells) hb'
          have hftb : ft M H b = some g := by simp [ft, hb', hg, hb]
          have hres := set_block hκ (.cells ty (splice cs j (evO e v).cells)) hH (by rw [hb']; rfl) hftb (grownBy_setRow w g (arr.toList.take j ++ vs ++ arr.toList.drop (j + vs.length)).toArray) (Nat.le_refl _) hk
            ⟨g, _, hg, setRow_heap w g arr _ ty (0, 0) h2, by simpa using keepLs hk hrl⟩ (fun g' hg' => by simp [ft, updH_same, hg, hb] at hg'; exact hg'.symm) (by rw [hb']; exact .inr ⟨_, rfl, by simp only [splice, List.length_append, List.length_take, List.length_drop]; omega⟩)
          refine ⟨_, _, _, _, h, ?_⟩
          unfold OpOK
          rw [hrun g j ty arr hc h2 (by simp at harr; omega)]
          exact ⟨M, trivial, hres.1, hres.2⟩
      · rename_i k own l hb'
        rw [hb'] at hx hbk
        cases hown : (own && Nat.ble (j + y.size) (κ k).sz) with
        | false => rw [hown] at h; simp [AP.run] at h
        | true =>
          obtain ⟨rfl, hle⟩ := allOne_of_beq hown
          rw [hown] at h
          have hle := Nat.le_of_ble_eq_true hle
          simp only [cond_true] at h
          obtain ⟨hi, ad, n, cap, hm, hc⟩ := hx
          split at h
          · rename_i r' hdec
            simp only [AP.run] at h
            have hkk := hκ k
            have henc := hkk.dec _ _ hdec
            have hrow : w.ownsRow 0 (κ k).ty (κ k).sz (M b) l.length (flat (κ k) l) := hbk
            rcases hrow.2 with ⟨_, h0⟩ | ⟨g, cap', cur, h4, h4', h5, h6, h7, h8, h9⟩
            · omega
            · rw [hm] at h4
              obtain ⟨rfl, rfl, rfl⟩ : ad = ⟨g, 0, none⟩ ∧ n = l.length ∧ cap = cap' := by simpa using h4
              rw [add_lit, Nat.zero_add] at hc
              have hxs := getD_some hi (κ k).zero
              generalize hxx : l.getD i (κ k).zero = xx at hxs henc
              have hml : ((κ k).enc xx).length = (κ k).sz := hkk.len xx
              have hfl := flat_length (κ k) hkk l
              have hfit : (i + 1) * (κ k).sz ≤ l.length * (κ k).sz := Nat.mul_le_mul_right _ (by omega)
              rw [Nat.succ_mul] at hfit
              have hcap : l.length * (κ k).sz ≤ cap * (κ k).sz := Nat.mul_le_mul_right _ h6
              -- the values are numbers, bools, strings
              have hsc : ∀ u ∈ (evO e v).cells, u.sc = true := by
                intro u hu
                refine hkk.sc r' u ?_
                rw [henc]
                simp [splice, hu]
              have hvals := RLs_vals hcells hsc
              have hflat : flat (κ k) (l.set i r') = (flat (κ k) l).take (i * (κ k).sz + j) ++ vs ++ (flat (κ k) l).drop (i * (κ k).sz + j + vs.length) := by
                have e1 := flat_set (κ k) hkk l i r' hi
                have e2 := flat_set (κ k) hkk l i xx hi
                have e3 : l.set i xx = l := by
                  refine List.ext_getElem? fun n => ?_
                  rw [List.getElem?_set]
                  split
                  · rename_i hin; subst hin; exact (by simpa [hi] using hxs.symm)
                  · rfl
                rw [e3] at e2
                rw [e1, henc, hvals]
                generalize hpre : (flat (κ k) l).take (i * (κ k).sz) = pre at e2 ⊢
                generalize hpost : (flat (κ k) l).drop (i * (κ k).sz + (κ k).sz) = post at e2 ⊢
                have hprel : pre.length = i * (κ k).sz := by rw [← hpre, List.length_take, hfl]; omega
                rw [e2]
                have f1 : (pre ++ ((κ k).enc xx).map LV.val ++ post).take (i * (κ k).sz + j) = pre ++ (((κ k).enc xx).map LV.val).take j := by
                  rw [List.append_assoc, ← hprel, List.take_length_add_append, List.take_append_of_le_length (by simp [hml]; omega)]
                have f2 : (pre ++ ((κ k).enc xx).map LV.val ++ post).drop (i * (κ k).sz + j + ((evO e v).cells.map LV.val).length) = (((κ k).enc xx).map LV.val).drop (j + (evO e v).cells.length) ++ post := by
                  rw [List.append_assoc, ← hprel, Nat.add_assoc, List.drop_length_add_append, List.length_map, List.drop_append_of_le_length (by simp [hml]; omega)]
                rw [f1, f2]
                simp [splice, List.map_take, List.map_drop]
              have hl' : (l.set i r').length = l.length := by simp
              have hk := keep_rows (M := M) (own' := true) (l' := l.set i r') hb' hl'
              have hftb : ft M H b = some g := by simp [ft, hb', hm, hb]
              have hvl : vs.length = y.size := by omega
              have hnew : (w.setRow g (cur.toList.take (i * (κ k).sz + j) ++ vs ++ cur.toList.drop (i * (κ k).sz + j + vs.length)).toArray).ownsRow 0 (κ k).ty (κ k).sz (M b) (l.set i r').length (flat (κ k) (l.set i r')) := by
                refine ⟨by rw [flat_length _ hkk], .inr ⟨g, cap, _, ?_, Nat.zero_le _, setRow_heap w g cur _ _ (0, 0) h5, by omega, h7, ?_, ?_⟩⟩
                · rw [hl', hm]
                · simp only [List.size_toArray, List.length_append, List.length_take, List.length_drop, Array.length_toList]
                  omega
                · rw [hl', hflat]
                  simp only
                  rw [splice_take _ _ _ _ (by omega) (by simp; omega), h9]
              have hres := set_block hκ (.rows k true (l.set i r')) hH (by rw [hb']; rfl) hftb (grownBy_setRow w g _) (Nat.le_refl _) hk hnew (fun g' hg' => by simp [ft, updH_same, hm, hb] at hg'; exact hg'.symm) (by rw [hb']; exact .inr ⟨_, _, rfl, hl'⟩)
              refine ⟨_, _, _, _, h, ?_⟩
              unfold OpOK
              rw [hrun g (i * (κ k).sz + j) _ cur hc h5 (by omega)]
              exact ⟨M, trivial, hres.1, hres.2⟩
          · simp [AP.run] at h
      · simp [AP.run] at h
  · simp [AP.run] at h
end
end Go.Eng

/- Each operation of the machine does what the abstract run says: literals, fields, numbers. -/
set_option linter.unusedVariables false
set_option linter.unusedSimpArgs false
namespace Go.Eng
open Go
section
variable {κ : Nat → KT} {P : Program} {ti : TypeId → Option TI} {Γ : Ct κ}
variable {R : Type} {K : AV → Hp κ → List Nat → List Nat → Option R} {r : R} {M : Mu} {H : Hp κ} {w : World} {e : En} {a : Act} {o : Oper} {nm : Nat}
theorem foldl_set : ∀ (vs : List Value) (off i : Nat) (cs : Array Value), off + i + vs.length ≤ cs.size →
    ((vs.zipIdx i).foldl (fun cs (p : Value × Nat) => cs.setIfInBounds (off + p.2) p.1) cs).toList = cs.toList.take (off + i) ++ vs ++ cs.toList.drop (off + i + vs.length)
  | [], off, i, cs, h => by simp
  | v :: vs, off, i, cs, h => by
    simp only [List.length_cons] at h
    rw [List.zipIdx_cons, List.foldl_cons, foldl_set vs off (i + 1) _ (by simp; omega)]
    have h1 := list_seg_step cs.toList (off + i) v vs (by simp; omega)
    simp only [Array.toList_setIfInBounds, List.length_cons]
    have e1 : off + (i + 1) = off + i + 1 := by omega
    rw [e1]
    exact h1
theorem fill_rel (hH : RH M H w) {pl : Nat → Option (Nat × Nat)} {pl' : Nat → Option (Nat × Nat)} (hpl : ∀ f q, pl f = some q → pl' f = some q) :
    ∀ (ps : List (Nat × AV)) (qs : List (Nat × Value)) (cs cs' : List LV) (arr : Array Value), fillA pl cs ps = some cs' → RLs M H cs arr.toList →
      qs.length = ps.length → (∀ (j : Nat) p q, ps[j]? = some p → qs[j]? = some q → q.1 = p.1 ∧ RA M H p.2 q.2) → ∃ arr', Instr.fill pl' arr qs = some arr' ∧ RLs M H cs' arr'.toList
  | [], qs, cs, cs', arr, h, hr, hl, hq => by
    obtain rfl : qs = [] := List.eq_nil_of_length_eq_zero hl
    obtain rfl : cs = cs' := by simpa [fillA] using h
    exact ⟨arr, rfl, hr⟩
  | (f, x) :: ps, [], cs, cs', arr, h, hr, hl, hq => by simp at hl
  | (f, x) :: ps, (f', v) :: qs, cs, cs', arr, h, hr, hl, hq => by
    obtain ⟨h1, h2⟩ := hq 0 _ _ rfl rfl
    simp only at h1 h2
    subst h1
    simp only [fillA] at h
    split at h
    · rename_i o n hpf
      cases hc : (Nat.beq x.cells.length n && Nat.ble (o + n) cs.length && x.one) with
      | false => rw [hc] at h; simp at h
      | true =>
        rw [hc] at h
        obtain ⟨hc1, hc3⟩ := allOne_of_beq hc
        obtain ⟨hc1, hc2⟩ := allOne_of_beq hc1
        have hc1 := Nat.eq_of_beq_eq_true hc1
        have hc2 := Nat.le_of_ble_eq_true hc2
        have hcells := RA_cells hH h2 hc3
        have hl2 := hcells.1
        have hl3 := hr.1
        have hfold := foldl_set v.cells.toList o 0 arr (by simp at hl2 hl3 ⊢; omega)
        have hsz : v.cells.size = n := by simpa [hc1] using hl2
        have hle : ¬ (o + v.cells.size > arr.size) := by simp at hl3; omega
        have hfill : Instr.fill pl' arr ((f', v) :: qs) = Instr.fill pl' (v.cells.zipIdx.foldl (fun cs (p : Value × Nat) => cs.setIfInBounds (o + p.2) p.1) arr) qs := by
          have hle2 : ¬ (o + n > arr.size) := by omega
          simp [Instr.fill, hpl _ _ hpf, hsz, hle2]
        rw [hfill]
        refine fill_rel hH hpl ps qs _ cs' _ h ?_ (by simpa using hl) (fun j p q h3 h4 => hq (j + 1) p q h3 h4)
        rw [← Array.foldl_toList, Array.toList_zipIdx, hfold]
        exact RLs_splice hr hcells o (by omega)
    · cases h
theorem decRows_some (k : KT) (hk : k.Ok) : ∀ (n : Nat) (cs : List LV) (l : List k.T), decRows k n cs = some l → l.length = n ∧ flat k l = cs.map LV.val ∧ ∀ v ∈ cs, v.sc = true
  | 0, [], l, h => by obtain rfl : [] = l := by simpa [decRows] using h
                      exact ⟨rfl, rfl, by simp⟩
  | 0, _ :: _, l, h => by simp [decRows] at h
  | n + 1, cs, l, h => by
    simp only [decRows] at h
    obtain ⟨x, hx, h⟩ := Option.bind_eq_some_iff.1 h
    obtain ⟨xs, hxs, h⟩ := Option.bind_eq_some_iff.1 h
    obtain rfl : x :: xs = l := by simpa using h
    obtain ⟨h1, h2, h3⟩ := decRows_some k hk n _ xs hxs
    have he := hk.dec _ _ hx
    refine ⟨by simp [h1], ?_, fun v hv => ?_⟩
    · rw [flat_cons, h2, he, ← List.map_append, List.take_append_drop]
    · rw [← List.take_append_drop k.sz cs] at hv
      rcases List.mem_append.1 hv with hv | hv
      · rw [← he] at hv; exact hk.sc x v hv
      · exact h3 v hv
theorem flat_replicate (k : KT) (n : Nat) : flat k (List.replicate n k.zero) = (zeros k n).map LV.val := by
  simp [flat, zeros, List.flatMap_replicate, List.map_flatten]
theorem made_zeros (k : KT) (hk : k.Ok) (z : Array Value) (hz : z.toList = (k.enc k.zero).map LV.val) (n : Nat) : (madeCells z (n * k.sz)).toList = (zeros k n).map LV.val := by
  have hzs : z.size = k.sz := by have := congrArg List.length hz; simpa [hk.len] using this
  have hp := hk.pos
  rw [← flat_replicate]
  have hfl := flat_length k hk (List.replicate n k.zero)
  rw [List.length_replicate] at hfl
  refine List.ext_getElem? fun j => ?_
  by_cases hj : j < n * k.sz
  · have hd : j / k.sz < n := (Nat.div_lt_iff_lt_mul hp).2 hj
    have hm := Nat.mod_lt j hp
    have e1 : j / k.sz * k.sz + j % k.sz = j := by rw [Nat.mul_comm]; exact Nat.div_add_mod j k.sz
    have h1 := flat_get k hk (List.replicate n k.zero) (j / k.sz) k.zero (by simp [hd]) (j % k.sz) hm
    rw [e1] at h1
    rw [h1, ← List.getElem?_map, ← hz]
    simp only [madeCells, Array.toList_map, List.getElem?_map, Array.toList_range, List.getElem?_range hj, Option.map_some]
    have h2 : j % k.sz < z.size := by omega
    rw [Array.getElem?_toList, Array.getElem?_eq_getElem h2]
    simp [hzs]; exact getElem!_pos z _ h2
  · rw [List.getElem?_eq_none (by simp [size_madeCells]; omega), List.getElem?_eq_none (by omega)]
theorem zeros_RLs (k : KT) (hk : k.Ok) (n : Nat) : ∀ v ∈ zeros k n, v.sc = true := by
  intro v hv
  simp only [zeros, List.mem_flatten] at hv
  obtain ⟨l, hl, hv⟩ := hv
  obtain ⟨_, rfl⟩ := List.mem_replicate.1 hl
  exact hk.sc _ v hv
theorem mapped_parts (a : Act) (ps : Array (Nat × Operand)) (hE : RE M H e a.tmps) : ((ps.map fun (i, x) => (i, a.eval x)).toList).length = (ps.toList.map fun p => (p.1, evO e p.2)).length ∧
    ∀ (j : Nat) p q, (ps.toList.map fun p => (p.1, evO e p.2))[j]? = some p → ((ps.map fun (i, x) => (i, a.eval x)).toList)[j]? = some q → q.1 = p.1 ∧ RA M H p.2 q.2 := by
  refine ⟨by simp, fun j p q h1 h2 => ?_⟩
  rw [Array.toList_map, List.getElem?_map] at h2
  rw [List.getElem?_map] at h1
  cases hj : ps.toList[j]? with
  | none => rw [hj] at h1; cases h1
  | some x =>
    rw [hj] at h1 h2
    simp only [Option.map_some, Option.some.injEq] at h1 h2
    subst h1; subst h2
    exact ⟨rfl, evO_RA hE x.2⟩
theorem sim_buildSlice (hκ : ∀ k, (κ k).Ok) (tok : ∀ t x, ti t = some x → TypeOK P κ t x) (hE : RE M H e a.tmps) (hH : RH M H w) (t : TypeId) (n : Nat) (ps : Array (Nat × Operand)) (ho : o.op = .buildSlice t n ps) (h : (aop ti Γ nm e o.op).run H [] [] K = some r) : Sim P o a M H w K r := by
  rw [ho] at h
  simp only [aop] at h
  split at h
  · rename_i y hty
    split at h
    · rename_i k hk
      obtain ⟨h1, inf, z, h2, h3, h4, h5, h6⟩ := (tok t y hty).slk k hk
      cases hle : Nat.ble (n * (κ k).sz) 16777216 with
      | false => rw [hle] at h; simp [AP.run] at h
      | true =>
        rw [hle] at h
        have hle := Nat.le_of_ble_eq_true hle
        simp only [cond_true] at h
        split at h
        · rename_i cs hcs
          split at h
          · rename_i l hl
            obtain ⟨hf, h⟩ := run_newBlk h
            obtain ⟨d1, d2, d3⟩ := decRows_some (κ k) (hκ k) n cs l hl
            have hp := (hκ k).pos
            have hmz := made_zeros (κ k) (hκ k) z.cells h6 n
            obtain ⟨m1, m2⟩ := mapped_parts a ps hE
            have hr0 : RLs M H (zeros (κ k) n) (madeCells z.cells (n * (κ k).sz)).toList := by
              rw [hmz]; exact vals_RLs (zeros_RLs (κ k) (hκ k) n)
            obtain ⟨arr', hfill, hrl⟩ := fill_rel hH (pl' := fun i => some (i * inf.size, inf.size)) (fun f q hq => by rw [h3]; exact hq) _ _ _ cs _ hcs hr0 m1 m2
            have hvals := RLs_vals hrl d3
            have hrun : (execOp a.eval o).run P w = .ok (.value (.slice (some ⟨w.heap.size, 0, none⟩) n n)) (w.alloc (.cells arr' (κ k).ty)) := by
              by_cases hn : n = 0
              · subst hn
                have hcs0 : arr' = (madeCells z.cells 0) ∨ True := .inr trivial
                simp only [Nat.zero_mul] at hfill
                have e0 : madeCells z.cells 0 = #[] := by simp [madeCells]
                rw [e0] at hfill
                have e1 : (ps.map fun (i, x) => (i, a.eval x)).toList = ps.toList.map fun x => (x.1, a.eval x.2) := by simp
                rw [e1] at hfill
                have e2 : (Array.range 0).map (fun x => (default : Value)) = #[] := by simp
                simp [execOp, ho, Instr.buildSlice, run_underlying h1, sizeOf, typeInfo, h2, newRow]
                rw [e2, hfill]
                simp
              · have hpos : ¬ n * inf.size = 0 := by rw [h3]; exact Nat.ne_of_gt (Nat.mul_pos (by omega) hp)
                have hrb := run_buildSlice (P := P) w t (κ k).ty n (ps.map fun (i, x) => (i, a.eval x)) arr' inf z h1 h2 h5 (by rw [h3]; omega) hpos (by rw [h3] at hfill ⊢; exact hfill)
                simp only [execOp, ho, Sem.run_bind, hrb, Result.andThen_ok, Sem.run_pure]
            refine ⟨_, _, _, _, h, ?_⟩
            unfold OpOK
            rw [hrun]
            refine new_rows hκ hf k l _ hH (World.grownBy_alloc w _ none) (Nat.le_refl _) ?_ (by simp [hb])
            have := World.ownsRow_lit (base := 0) (e := (κ k).ty) (size := (κ k).sz) w arr' n (Nat.zero_le _) (by unfold maxLen; have := Nat.le_mul_of_pos_right n hp; omega) (by
              have := congrArg List.length hvals
              simp only [Array.length_toList, List.length_map] at this
              rw [this, ← List.length_map (f := LV.val), ← d2, flat_length _ (hκ k), d1])
            rw [d1, d2, ← hvals]
            exact this
          · simp [AP.run] at h
        · simp [AP.run] at h
    · simp [AP.run] at h
  · simp [AP.run] at h
end
end Go.Eng

/- Each operation of the machine does what the abstract run says: fields, numbers, comparisons. -/
set_option linter.unusedVariables false
set_option linter.unusedSimpArgs false
namespace Go.Eng
open Go
section
variable {κ : Nat → KT} {P : Program} {ti : TypeId → Option TI} {Γ : Ct κ}
variable {R : Type} {K : AV → Hp κ → List Nat → List Nat → Option R} {r : R} {M : Mu} {H : Hp κ} {w : World} {e : En} {a : Act} {o : Oper} {nm : Nat}
theorem sim_build (tok : ∀ t x, ti t = some x → TypeOK P κ t x) (hE : RE M H e a.tmps) (hH : RH M H w) (t : TypeId) (ps : Array (Nat × Operand)) (ho : o.op = .build t ps) (h : (aop ti Γ nm e o.op).run H [] [] K = some r) : Sim P o a M H w K r := by
  rw [ho] at h
  simp only [aop] at h
  split at h
  · rename_i y hty
    cases hag : (!y.flds.isEmpty) with
    | false => rw [hag] at h; simp [AP.run] at h
    | true =>
      rw [hag] at h
      obtain ⟨v, hv, hK⟩ := run_retO h
      obtain ⟨cs, hcs, rfl⟩ := Option.map_eq_some_iff.1 hv
      have htk := tok t y hty
      obtain ⟨inf, d, z, t1, t2, t3, t4, t5, t6⟩ := htk.ex
      obtain ⟨m1, m2⟩ := mapped_parts a ps hE
      have hr0 : RLs M H y.zero z.cells.toList := sc0_RLs htk.z0 t6
      rcases htk.fldsA with h0 | ⟨fs, f1, f2, f3, f4⟩
      · rw [h0] at hag; cases hag
      · obtain ⟨arr', hfill, hrl⟩ := fill_rel hH (pl' := fun i => (y.flds.map fun q => (q.1, q.2.1))[i]?) (fun f q hq => by rw [List.getElem?_map]; exact hq) _ _ _ cs _ hcs hr0 m1 m2
        have hb : P.built t (ps.map fun (i, x) => (i, a.eval x)).toList = some arr' := by
          unfold Program.built
          simp only [t1, f1, t5, f2]
          simpa using hfill
        have hrun := run_build w t (ps.map fun (i, x) => (i, a.eval x)) arr' hb
        exact sim_value hH hK (by simp only [execOp, ho, Sem.run_bind, hrun, Result.andThen_ok, Sem.run_pure]) ⟨arr', rfl, hrl⟩
  · simp [AP.run] at h
theorem sim_field (tok : ∀ t x, ti t = some x → TypeOK P κ t x) (hE : RE M H e a.tmps) (hH : RH M H w) (t : TypeId) (x : Operand) (f : Nat) (ho : o.op = .field t x f) (h : (aop ti Γ nm e o.op).run H [] [] K = some r) : Sim P o a M H w K r := by
  rw [ho] at h
  have hx := evO_RA hE x
  simp only [aop] at h
  split at h
  · rename_i cs y hxe hty
    rw [hxe] at hx
    obtain ⟨arr, hc, hrl⟩ := hx
    split at h
    · rename_i of n g hfl
      obtain ⟨fs, fd, fi, d, h1, h2, h3, h4, h5, h6, h7, h8⟩ := (tok t y hty).flds f of n g hfl
      obtain ⟨v, hv, hK⟩ := run_retO h
      have hsub := RLs_sub hrl of n
      have hx1 : (execOp a.eval o).run P w = ((part fd.type arr of).run P w).andThen fun v w' => .ok (.value v) w' := by
        simp [execOp, ho, hc, Instr.field, run_underlying h1, h2, asAgg, h3]
      have hpl := (partV_some hv).1
      simp only at hpl
      have hal := hrl.1
      have hlen : of + n ≤ arr.size := by
        have := hsub.1; rw [hpl] at this
        simp [List.length_take, List.length_drop] at this; omega
      rcases RA_part hv hsub with ⟨ha, hr⟩ | ⟨ha, u, hu, hr⟩
      · simp only at ha
        subst ha
        refine sim_value hH hK ?_ hr
        have hd : (isAgg fd.type).run P w = .ok true w := by
          cases d <;> simp [isAggD] at h8 <;> simp [isAgg, run_underlying h7]
        rw [hx1]
        simp [part, hd, sizeOf, typeInfo, h4, h5]
        refine Array.toList_inj.1 ?_
        simp [List.take_drop]
      · simp only at ha
        subst ha
        refine sim_value hH hK ?_ hr
        have hd : (isAgg fd.type).run P w = .ok false w := by
          cases d <;> simp [isAggD] at h8 <;> simp [isAgg, run_underlying h7]
        have hgo : arr[of]? = some u := by
          have := congrArg (fun l => l[0]?) hu
          simp only [List.getElem?_take, List.getElem?_drop] at this
          split at this
          · simpa using this
          · simp at this
        rw [hx1]
        simp [part, hd, hgo]
    · simp [AP.run] at h
  · simp [AP.run] at h
theorem sim_extract (hE : RE M H e a.tmps) (hH : RH M H w) (x : Operand) (i : Nat) (ho : o.op = .extract x i) (h : (aop ti Γ nm e o.op).run H [] [] K = some r) : Sim P o a M H w K r := by
  rw [ho] at h
  have hx := evO_RA hE x
  simp only [aop] at h
  split at h
  · rename_i ps hxe
    rw [hxe] at hx
    obtain ⟨arr, hc, hs, hp⟩ := hx
    split at h
    · rename_i cs hi
      have hlt : i < arr.size := by have := (List.getElem?_eq_some_iff.1 hi).1; omega
      obtain ⟨arr2, h2, h3⟩ := hp i _ arr[i] hi (Array.getElem?_eq_getElem hlt)
      refine sim_value (c := arr[i]) hH h (by simp [execOp, ho, hc, Instr.extract, hlt]) ⟨arr2, h2, h3⟩
    · rename_i y hi
      have hlt : i < arr.size := by have := (List.getElem?_eq_some_iff.1 hi).1; omega
      have h2 := hp i _ arr[i] hi (Array.getElem?_eq_getElem hlt)
      exact sim_value (c := arr[i]) hH h (by simp [execOp, ho, hc, Instr.extract, hlt]) h2
    · simp [AP.run] at h
  · simp [AP.run] at h
theorem sim_unOp (hE : RE M H e a.tmps) (hH : RH M H w) (u : UnOp) (t : TypeId) (x : Operand) (ho : o.op = .unOp u t x) (h : (aop ti Γ nm e o.op).run H [] [] K = some r) : Sim P o a M H w K r := by
  rw [ho] at h
  have hx := evO_RA hE x
  simp only [aop] at h
  split at h
  · rename_i b hxe
    rw [hxe] at hx
    have hx : a.eval x = .bool b := hx
    exact sim_value hH h (by simp [execOp, ho, hx, Op.unary]) rfl
  · rename_i k n hxe
    rw [hxe] at hx
    have hx : a.eval x = .int k n := hx
    exact sim_value hH h (by simp [execOp, ho, hx, Op.unary, Op.intArith]) rfl
  · simp [AP.run] at h
theorem sim_index (tok : ∀ t x, ti t = some x → TypeOK P κ t x) (hE : RE M H e a.tmps) (hH : RH M H w) (t : TypeId) (x ix : Operand) (ho : o.op = .index t x ix) (h : (aop ti Γ nm e o.op).run H [] [] K = some r) : Sim P o a M H w K r := by
  rw [ho] at h
  have hx := evO_RA hE x
  have hi := evO_RA hE ix
  simp only [aop] at h
  split at h
  · rename_i s i y hxe hie hty
    rw [hxe] at hx
    rw [hie] at hi
    have hx : a.eval x = .string s := hx
    have hi : a.eval ix = .int .i64 i := hi
    cases hs : y.str with
    | false => rw [hs] at h; simp [AP.run] at h
    | true =>
      rw [hs] at h
      simp only [cond_true, AP.run] at h
      have h1 := (tok t y hty).str hs
      by_cases c1 : 0 ≤ i
      · simp only [c1, decide_true, cond_true] at h
        by_cases c2 : i < (s.size : Int)
        · simp only [c2, decide_true, cond_true] at h
          have hlt : i.toNat < s.size := by omega
          have hg : s[i.toNat]? = some (s.data.toList.getD i.toNat 0) := by
            rw [List.getD_eq_getElem?_getD]
            have hlt' : i.toNat < s.data.toList.length := by simpa using hlt
            rw [List.getElem?_eq_getElem hlt']
            rw [getElem?_pos s i.toNat hlt]
            rfl
          exact sim_value hH h (by simp [execOp, ho, hx, hi, Instr.index, asIntOf, run_underlying h1, c1, hg]) rfl
        · simp [c2] at h
      · simp [c1] at h
  · simp [AP.run] at h
theorem sim_makeSlice (hκ : ∀ k, (κ k).Ok) (tok : ∀ t x, ti t = some x → TypeOK P κ t x) (hE : RE M H e a.tmps) (hH : RH M H w) (t : TypeId) (l c : Operand) (ho : o.op = .makeSlice t l c) (h : (aop ti Γ nm e o.op).run H [] [] K = some r) : Sim P o a M H w K r := by
  rw [ho] at h
  have hl := evO_RA hE l
  simp only [aop] at h
  cases hs : sameOp l c with
  | false => rw [hs] at h; simp [AP.run] at h
  | true =>
    rw [hs] at h
    simp only [cond_true] at h
    have hlc : a.eval c = a.eval l := by
      unfold sameOp at hs
      split at hs
      · rw [Nat.eq_of_beq_eq_true hs]
      · simp at hs; subst hs; rfl
      · cases hs
    split at h
    · rename_i n y hle hty
      rw [hle] at hl
      have hl : a.eval l = .int .i64 n := hl
      split at h
      · rename_i k hk
        obtain ⟨h1, inf, z, h2, h3, h4, h5, h6⟩ := (tok t y hty).slk k hk
        simp only [AP.run] at h
        by_cases c1 : 0 ≤ n
        · simp only [c1, decide_true, cond_true] at h
          by_cases c2 : n.toNat * (κ k).bytes ≤ cap48
          · simp only [c2, decide_true, cond_true] at h
            obtain ⟨hf, h⟩ := run_newBlk h
            obtain ⟨m, rfl⟩ : ∃ m : Nat, n = (m : Int) := ⟨n.toNat, by omega⟩
            simp only [Int.toNat_natCast] at *
            unfold cap48 at c2
            have hb0 := (hκ k).bpos
            have hmb := Nat.le_mul_of_pos_right m hb0
            obtain ⟨w', r1, r2, r3⟩ := run_make_full (P := P) w 0 t (κ k).ty inf z (κ k).sz h1 h2 h5 h3 .i64 .i64 m (by rw [h4, Nat.mul_comm]; omega) (by unfold maxLen; omega) (Nat.zero_le _)
            refine ⟨_, _, _, _, h, ?_⟩
            unfold OpOK
            have hrun : (execOp a.eval o).run P w = .ok (.value (.slice (some ⟨w.heap.size, 0, none⟩) m m)) w' := by
              simp only [execOp, ho, hlc, hl, Sem.run_bind, r1, Result.andThen_ok, Sem.run_pure]
            rw [hrun]
            refine new_rows hκ hf k _ _ hH r3 (run_drawn _ _ _ _ _ hrun) ?_ (by simp [hb])
            rw [flat_replicate, List.length_replicate, ← made_zeros (κ k) (hκ k) z.cells h6 m]
            exact r2
          · simp [c2] at h
        · simp [c1] at h
      · simp [AP.run] at h
    · simp [AP.run] at h
end
end Go.Eng

/- Each operation of the machine does what the abstract run says: two operands, slices, append, calls; all of them. -/
set_option linter.unusedVariables false
set_option linter.unusedSimpArgs false
namespace Go.Eng
open Go
section
variable {κ : Nat → KT} {P : Program} {ti : TypeId → Option TI} {Γ : Ct κ}
variable {R : Type} {K : AV → Hp κ → List Nat → List Nat → Option R} {r : R} {M : Mu} {H : Hp κ} {w : World} {e : En} {a : Act} {o : Oper} {nm : Nat}
theorem bitop_run (op : BinOp) (k : IntKind) (x y : Int) (h : op = .and ∨ op = .or ∨ op = .xor ∨ op = .andNot) : (Op.intBits op k x y).run P w = .ok (.int k (bitop op k x y)) w := by
  rcases h with rfl | rfl | rfl | rfl <;> rfl
theorem eqGuard_int (op : BinOp) (t : TypeId) (x y : Operand) (k k' : IntKind) (p q : Int) : (eqGuard op t x y (.int k p) (.int k' q)).run P w = .ok () w := by
  unfold eqGuard
  cases op <;> simp
theorem eqGuard_str (op : BinOp) (t : TypeId) (x y : Operand) (p q : ByteArray) : (eqGuard op t x y (.string p) (.string q)).run P w = .ok () w := by
  unfold eqGuard
  cases op <;> simp
theorem eqGuard_bool (op : BinOp) (t : TypeId) (x y : Operand) (p q : Bool) : (eqGuard op t x y (.bool p) (.bool q)).run P w = .ok () w := by
  unfold eqGuard
  cases op <;> simp
theorem sim_bin_int (hH : RH M H w) (op : BinOp) (t t' : TypeId) (x y : Operand) (k k' : IntKind) (p q : Int) (ho : o.op = .binOp op t x y t') (hx : a.eval x = .int k p) (hy : a.eval y = .int k' q)
    (h : (binA (κ := κ) ti op t (.v (.int k p)) (.v (.int k' q))).run H [] [] K = some r) : Sim P o a M H w K r := by
  have hex : ∀ c : Value, (binOp op t (.int k p) (.int k' q)).run P w = .ok c w → (execOp a.eval o).run P w = .ok (.value c) w := by
    intro c hc
    simp [execOp, ho, hx, hy, eqGuard_int, hc]
  simp only [binA] at h
  cases hs : isShift op with
  | true =>
    rw [hs] at h
    simp only [cond_true, shiftI, AP.run] at h
    by_cases hq : q < 0
    · simp [hq] at h
    · simp only [hq, decide_false, cond_false] at h
      cases op <;> first | (cases hs; done) | skip
      · simp only [AP.run] at h
        exact sim_value hH h (hex _ (by simp [binOp, Op.shift, hq])) rfl
      · simp only [AP.run] at h
        exact sim_value hH h (hex _ (by simp [binOp, Op.shift, hq])) rfl
  | false =>
    rw [hs] at h
    simp only [cond_false] at h
    by_cases hk : k = k'
    · subst hk
      simp only [decide_true, cond_true] at h
      cases op <;> simp only [binI, AP.run] at h
      case add => exact sim_value hH h (hex _ (by simp [binOp, Op.intArith])) rfl
      case sub => exact sim_value hH h (hex _ (by simp [binOp, Op.intArith])) rfl
      case mul => exact sim_value hH h (hex _ (by simp [binOp, Op.intArith])) rfl
      case quo =>
        by_cases hq : q = 0
        · simp [hq] at h
        · simp only [hq, decide_false, cond_false] at h
          exact sim_value hH h (hex _ (by simp [binOp, Op.intDiv, hq])) rfl
      case rem =>
        by_cases hq : q = 0
        · simp [hq] at h
        · simp only [hq, decide_false, cond_false] at h
          exact sim_value hH h (hex _ (by simp [binOp, Op.intDiv, hq])) rfl
      case and => exact sim_value hH h (hex _ (by simp [binOp, bitop_run])) rfl
      case or => exact sim_value hH h (hex _ (by simp [binOp, bitop_run])) rfl
      case xor => exact sim_value hH h (hex _ (by simp [binOp, bitop_run])) rfl
      case andNot => exact sim_value hH h (hex _ (by simp [binOp, bitop_run])) rfl
      case eql => exact sim_value hH h (hex _ (by simp [binOp, Op.intCmp])) rfl
      case neq => exact sim_value hH h (hex _ (by simp [binOp, Op.intCmp])) rfl
      case lss => exact sim_value hH h (hex _ (by simp [binOp, Op.intCmp])) rfl
      case leq => exact sim_value hH h (hex _ (by simp [binOp, Op.intCmp])) rfl
      case gtr => exact sim_value hH h (hex _ (by simp [binOp, Op.intCmp])) rfl
      case geq => exact sim_value hH h (hex _ (by simp [binOp, Op.intCmp])) rfl
      all_goals cases h
    · simp [hk, AP.run] at h
theorem sim_binOp (tok : ∀ t x, ti t = some x → TypeOK P κ t x) (hE : RE M H e a.tmps) (hH : RH M H w) (op : BinOp) (t t' : TypeId) (x y : Operand) (ho : o.op = .binOp op t x y t') (h : (aop ti Γ nm e o.op).run H [] [] K = some r) : Sim P o a M H w K r := by
  rw [ho] at h
  have hx := evO_RA hE x
  have hy := evO_RA hE y
  simp only [aop] at h
  generalize evO e x = xv at hx h
  generalize evO e y = yv at hy h
  unfold binA at h
  split at h
  · rename_i k p k' q
    exact sim_bin_int (ti := ti) hH op t t' x y k k' p q ho hx hy (by simpa only [binA] using h)
  · rename_i p q
    have hx : a.eval x = .string p := hx
    have hy : a.eval y = .string q := hy
    have hex : ∀ c : Value, (binOp op t (.string p) (.string q)).run P w = .ok c w → (execOp a.eval o).run P w = .ok (.value c) w := by
      intro c hc
      simp [execOp, ho, hx, hy, eqGuard_str, hc]
    cases op <;> simp only [strI, AP.run] at h
    case add =>
      by_cases hq : ((p.size + q.size : Nat) : Int) > IntKind.i64.max
      · rw [decide_eq_true hq] at h; cases h
      · rw [decide_eq_false hq] at h
        exact sim_value hH h (hex _ (by simp only [binOp, Op.stringOp, if_neg hq]; rfl)) rfl
    case eql => exact sim_value hH h (hex _ (by simp [binOp, Op.stringOp])) rfl
    case neq => exact sim_value hH h (hex _ (by simp [binOp, Op.stringOp])) rfl
    all_goals cases h
  · rename_i p q
    have hx : a.eval x = .bool p := hx
    have hy : a.eval y = .bool q := hy
    have hex : ∀ c : Value, (binOp op t (.bool p) (.bool q)).run P w = .ok c w → (execOp a.eval o).run P w = .ok (.value c) w := by
      intro c hc
      simp [execOp, ho, hx, hy, eqGuard_bool, hc]
    split at h
    · rename_i i hi
      cases hc : (i.eq && !i.agg) with
      | false => rw [hc] at h; simp [AP.run] at h
      | true =>
        rw [hc] at h
        obtain ⟨h1, h2⟩ := allOne_of_beq hc
        have hu := (tok t i hi).eqB h1 (by simpa using h2)
        have he : (Op.equal t (.bool p) (.bool q)).run P w = .ok (p == q) w := run_equalIn_bool' (P := P) w 9999 t p q hu
        cases op <;> simp only [cond_true, AP.run] at h
        case eql => exact sim_value hH h (hex _ (by simp [binOp, he])) rfl
        case neq => exact sim_value hH h (hex _ (by simp [binOp, he])) rfl
        all_goals cases h
    · simp [AP.run] at h
  · rename_i xs ys
    obtain ⟨ax, hx, hrx⟩ := hx
    obtain ⟨ay, hy, hry⟩ := hy
    split at h
    · rename_i i hi
      cases hc : (i.eq && (i.agg && sameMk i.zero xs)) with
      | false => rw [hc] at h; simp [AP.run] at h
      | true =>
        rw [hc] at h
        obtain ⟨h1, h2⟩ := allOne_of_beq hc
        obtain ⟨h2, h3⟩ := allOne_of_beq h2
        obtain ⟨g1, g2⟩ := (tok t i hi).eqA h1 h2
        have hsc : ∀ xs ys b, eqCells xs ys = some b → (∀ v ∈ xs, v.sc = true) ∧ (∀ v ∈ ys, v.sc = true) := by
          have one : ∀ x y b, eqLV x y = some b → x.sc = true ∧ y.sc = true := by
            intro x y b hb
            cases x <;> cases y <;> simp [eqLV, LV.sc] at hb ⊢
          intro xs
          induction xs with
          | nil => intro ys b hb; cases ys <;> simp [eqCells] at hb ⊢
          | cons x xs ih =>
            intro ys b hb
            cases ys with
            | nil => cases xs <;> simp [eqCells] at hb
            | cons y ys =>
              have hcase : ∃ c, eqLV x y = some c ∧ ((xs = [] ∧ ys = []) ∨ ∃ d, eqCells xs ys = some d) := by
                cases xs with
                | nil => cases ys with
                  | nil => exact ⟨b, hb, .inl ⟨rfl, rfl⟩⟩
                  | cons y' ys =>
                    simp only [eqCells] at hb
                    obtain ⟨c, hc, hb⟩ := Option.bind_eq_some_iff.1 hb
                    obtain ⟨d, hd, hb⟩ := Option.bind_eq_some_iff.1 hb
                    simp [eqCells] at hd
                | cons x' xs =>
                  simp only [eqCells] at hb
                  obtain ⟨c, hc, hb⟩ := Option.bind_eq_some_iff.1 hb
                  obtain ⟨d, hd, hb⟩ := Option.bind_eq_some_iff.1 hb
                  exact ⟨c, hc, .inr ⟨d, hd⟩⟩
              obtain ⟨c, hc, hrest⟩ := hcase
              obtain ⟨o1, o2⟩ := one x y c hc
              rcases hrest with ⟨rfl, rfl⟩ | ⟨d, hd⟩
              · exact ⟨by simpa using o1, by simpa using o2⟩
              · obtain ⟨i1, i2⟩ := ih ys d hd
                exact ⟨fun v hv => by rcases List.mem_cons.1 hv with rfl | hv; exact o1; exact i1 v hv, fun v hv => by rcases List.mem_cons.1 hv with rfl | hv; exact o2; exact i2 v hv⟩
        have key : ∀ b, eqCells xs ys = some b → (Op.equalIn 10000 t (.agg ax) (.agg ay)).run P w = .ok b w := by
          intro b hb
          obtain ⟨s1, s2⟩ := hsc xs ys b hb
          exact g2 ax ay xs ys b w h3 (RLs_vals hrx s1) (RLs_vals hry s2) hb
        have hg := run_eqGuard_agg (P := P) w op t x y ax ay g1
        cases op <;> simp only [cond_true, AP.run] at h
        case eql =>
          split at h
          · rename_i b hb
            have hk := key b hb
            refine sim_value (c := .bool b) hH h ?_ rfl
            have h2 := run_eql_struct (P := P) w t ax ay
            rw [hk] at h2
            simp only [execOp, ho, hx, hy, Sem.run_bind, hg, Result.andThen_ok, h2, Sem.run_pure]
          · cases h
        case neq =>
          split at h
          · rename_i b hb
            have hk := key b hb
            refine sim_value (c := .bool (!b)) hH h ?_ rfl
            have h2 := run_neq_struct (P := P) w t ax ay
            rw [hk] at h2
            simp only [execOp, ho, hx, hy, Sem.run_bind, hg, Result.andThen_ok, h2, Sem.run_pure]
          · cases h
        all_goals cases h
    · simp [AP.run] at h
  · simp [AP.run] at h
theorem asRows {α : Type} {k : Nat} {b : Blk κ} {f : Bool → List (κ k).T → AP κ α} {rs ws} {K : α → Hp κ → List Nat → List Nat → Option R} (h : (rowsOf k b f).run H rs ws K = some r) :
    ∃ own l, b = .rows k own l ∧ (f own l).run H rs ws K = some r := by
  unfold rowsOf at h
  split at h
  · rename_i k' own l
    by_cases hk : k' = k
    · subst hk
      simp only [dite_true] at h
      exact ⟨own, l, rfl, h⟩
    · simp [hk, AP.run] at h
  · simp [AP.run] at h
theorem asWithRows {α : Type} {k : Nat} {x : AV} {f : List (κ k).T → AP κ α} {rs ws} {K : α → Hp κ → List Nat → List Nat → Option R} (h : (withRows k x f).run H rs ws K = some r) :
    (x = .v .nilsl ∧ (f []).run H rs ws K = some r) ∨ ∃ b own l, x = .v (.sl b) ∧ H b = .rows k own l ∧ (f l).run H (b :: rs) ws K = some r := by
  unfold withRows at h
  split at h
  · rename_i b
    simp only [AP.run] at h
    obtain ⟨own, l, hb, h⟩ := asRows h
    exact .inr ⟨b, own, l, rfl, hb, h⟩
  · exact .inl ⟨rfl, h⟩
  · simp [AP.run] at h
/-- The concrete side of a slice that is read: its elements, with or without memory. -/
theorem rows_src (hκ : ∀ k, (κ k).Ok) {k : Nat} {own : Bool} {l : List (κ k).T} {b : Nat} (h : RB M H w b (.rows k own l)) :
    (M b = .slice none 0 0 ∧ l = []) ∨ ∃ ad cap, M b = .slice (some ad) l.length cap ∧ ∀ (j : Nat) u, (flat (κ k) l)[j]? = some u → w.cell? (ad.add j) = some u := by
  rcases Nat.eq_zero_or_pos l.length with h0 | h0
  · have hl := List.eq_nil_of_length_eq_zero h0
    subst hl
    cases own with
    | true =>
      rcases (show w.ownsRow 0 _ _ (M b) _ _ from h).2 with ⟨h1, _⟩ | ⟨g, cap, cur, h1, _⟩
      · exact .inl ⟨h1, rfl⟩
      · exact .inr ⟨_, cap, h1, fun j u hj => by simp [flat] at hj⟩
    | false =>
      obtain ⟨A, c, h1, h2, h3, _⟩ := h
      cases A with
      | none => left; rw [h3 rfl] at h1; exact ⟨h1, rfl⟩
      | some ad => exact .inr ⟨ad, c, h1, fun j u hj => by simp [flat] at hj⟩
  · obtain ⟨ad, n, cap, hm, hc⟩ := rows_cells hκ h h0
    have hn : n = l.length := by
      cases own with
      | true => rcases (show w.ownsRow 0 _ _ (M b) _ _ from h).2 with ⟨h4, _⟩ | ⟨g, cap', cur, h4, _⟩ <;> rw [hm] at h4
                · cases h4
                · injection h4
      | false => obtain ⟨A, c, h4, _⟩ := h; rw [hm] at h4; injection h4
    subst hn
    exact .inr ⟨ad, cap, hm, hc⟩
theorem sl_eval {b k : Nat} {own : Bool} {l : List (κ k).T} {c : Value} (hb : H b = .rows k own l) (h : RA M H (.v (.sl b)) c) : c = M b := by
  simpa [RA, RL, hb] using h
theorem keep_dead {nm b k : Nat} {own : Bool} {l : List (κ k).T} {w : World} (hH : RH M H w) (hf : H nm = .fresh) (hbk : H b = .rows k own l) (x : Blk κ) (v : Value) :
    ∀ y c, RL M H y c → RL (updM M nm v) (updH (updH H nm x) b .dead) y c := by
  intro y c h
  have hbn : b ≠ nm := by rintro rfl; rw [hf] at hbk; cases hbk
  have hM : ∃ A n c, M b = .slice A n c := by
    have h0 := hH.blk b
    rw [hbk] at h0
    cases own
    · obtain ⟨A, c, h1, _⟩ := h0; exact ⟨_, _, _, h1⟩
    · rcases (show w.ownsRow 0 _ _ (M b) _ _ from h0).2 with ⟨h1, _⟩ | ⟨g, cap, cur, h1, _⟩ <;> exact ⟨_, _, _, h1⟩
  obtain ⟨A, n0, c0, hM⟩ := hM
  cases y <;> try exact h
  · rename_i n
    by_cases hn : n = b
    · subst hn
      simp only [RL, hbk] at h
      simp only [RL, updH_same, h, hM]
      rfl
    · by_cases hn2 : n = nm
      · subst hn2; simp [RL, hf] at h
      · simpa [RL, updH_ne hn, updH_ne hn2, updM_ne hn2] using h
  · rename_i n i j
    by_cases hn : n = b
    · subst hn
      simp only [RL, hbk] at h
      obtain ⟨_, a, n, cap, _, rfl⟩ := h
      simp only [RL, updH_same]
      rfl
    · by_cases hn2 : n = nm
      · subst hn2; simp [RL, hf] at h
      · simpa [RL, updH_ne hn, updH_ne hn2, updM_ne hn2] using h
theorem hb_own {v : Value} {n g : Nat} {w : World} {base : Nat} {e : TypeId} {size : Nat} {xs : List Value} (h : w.ownsRow base e size v n xs) (hg : hb v = some g) : v.ownBlock = some g := by
  rcases h.2 with ⟨rfl, _⟩ | ⟨g', cap, cur, rfl, _⟩
  · cases hg
  · simpa [hb, Value.ownBlock] using hg
theorem own_hb {v : Value} {g : Nat} (hg : v.ownBlock = some g) : hb v = some g := by
  cases v <;> simp [Value.ownBlock] at hg
  rename_i a n c
  cases a with
  | none => simp [Value.ownBlock] at hg
  | some a => simpa [Value.ownBlock, hb] using hg
theorem sim_append (hκ : ∀ k, (κ k).Ok) (tok : ∀ t x, ti t = some x → TypeOK P κ t x) (hE : RE M H e a.tmps) (hH : RH M H w) (s x : Operand) (t : TypeId) (y : TI) (k : Nat) (hty : ti t = some y) (hk : y.slk = some k)
    (ho : o.op = .call { callee := .builtin .append, args := #[s, x], argTypes := #[t, t] })
    (h : (appendA (κ := κ) k nm (evO e s) (evO e x)).run H [] [] K = some r) : Sim P o a M H w K r := by
  obtain ⟨h1, inf, z, h2, h3, h4, h5, h6⟩ := (tok t y hty).slk k hk
  have hs := evO_RA hE s
  have hx := evO_RA hE x
  have hkk := hκ k
  have hzs : z.cells.size = (κ k).sz := by have := congrArg List.length h6; simpa [hkk.len] using this
  have hex : ∀ v' w', (Builtin.append_ #[t, t] o.type #[a.eval s, a.eval x]).run P w = .ok v' w' → (execOp a.eval o).run P w = .ok (.value v') w' := by
    intro v' w' hr
    simp only [execOp, ho, resolve, invoke, builtin, Sem.run_bind, Sem.run_pure, Result.andThen_ok, List.map_toArray, List.map_cons, List.map_nil, hr]
  -- the source
  have key : ∀ (m : List (κ k).T), ((a.eval x = .slice none 0 0 ∧ m = []) ∨ ∃ ad cap, a.eval x = .slice (some ad) m.length cap ∧ ∀ (j : Nat) u, (flat (κ k) m)[j]? = some u → w.cell? (ad.add j) = some u) →
      ∀ (v : Value) (l : List (κ k).T), w.ownsRow 0 (κ k).ty (κ k).sz v l.length (flat (κ k) l) → (l.length + m.length) * (κ k).bytes ≤ 140737488355328 →
      ∃ v' w', (Builtin.append_ #[t, t] o.type #[v, a.eval x]).run P w = .ok v' w' ∧ w'.ownsRow 0 (κ k).ty (κ k).sz v' (l ++ m).length (flat (κ k) (l ++ m)) ∧ w.grownBy w' v.ownBlock ∧ (∀ g, hb v' = some g → hb v = some g ∨ w.heap.size ≤ g) := by
    intro m hm v l hown hcap
    have hmb := Nat.le_mul_of_pos_right (l.length + m.length) hkk.bpos
    rcases hm with ⟨hm, rfl⟩ | ⟨ad, cap, hm, hcells⟩
    · refine ⟨v, w, ?_, by simpa [flat_append, flat_nil] using hown, ⟨rfl, rfl, rfl, Nat.le_refl _, fun _ _ _ => rfl⟩, fun g hg => .inl hg⟩
      rw [hm]
      exact run_append_owned_none (P := P) w 0 t o.type (κ k).ty inf (κ k).sz h1 h2 v l.length _ hown
    · obtain ⟨v', w', r1, r2, r3, r4, r5⟩ := run_append_own_at (P := P) w 0 t o.type (κ k).ty inf z (κ k).sz (κ k).bytes h1 h2 h5 h3 h4 hzs hkk.pos v l.length _ hown ad m.length cap (flat (κ k) m) (flat_length _ hkk m) hcells (flat_one _ hkk m) (by unfold maxLen; omega) hcap (Nat.zero_le _)
      have r2' : w'.ownsRow 0 (κ k).ty (κ k).sz v' (l ++ m).length (flat (κ k) (l ++ m)) := by rw [List.length_append, flat_append]; exact r2
      refine ⟨v', w', by rw [hm]; exact r1, r2', r3, fun g hg => ?_⟩
      have hg' := hb_own r2' hg
      rcases r5 with r5 | r5
      · rw [r5] at hg'; exact .inl (own_hb hg')
      · rw [hg'] at r5; right; simp at r5; omega
  unfold appendA at h
  -- the source's elements
  have src : ∃ m : List (κ k).T, ∃ rs, ((a.eval x = .slice none 0 0 ∧ m = []) ∨ ∃ ad cap, a.eval x = .slice (some ad) m.length cap ∧ ∀ (j : Nat) u, (flat (κ k) m)[j]? = some u → w.cell? (ad.add j) = some u) ∧
      (appendB k nm (evO e s) m).run H rs [] K = some r := by
    rcases asWithRows h with ⟨hx1, h⟩ | ⟨b, own, l, hx1, hb', h⟩
    · rw [hx1] at hx
      exact ⟨[], _, .inl ⟨hx, rfl⟩, h⟩
    · rw [hx1] at hx
      have hx := sl_eval hb' hx
      have hbk := hH.blk b
      rw [hb'] at hbk
      have h0 := rows_src hκ hbk
      rw [← hx] at h0
      exact ⟨l, _, h0, h⟩
  obtain ⟨m, rs, hm, h⟩ := src
  unfold appendB at h
  split at h
  · rename_i hse
    rw [hse] at hs
    have hs : a.eval s = .slice none 0 0 := hs
    simp only [AP.run] at h
    by_cases c1 : m.length * (κ k).bytes ≤ cap48
    · simp only [c1, decide_true, cond_true] at h
      obtain ⟨hf, h⟩ := run_newBlk h
      obtain ⟨v', w', r1, r2, r3, r4⟩ := key m hm (.slice none 0 0) [] (by simpa [flat] using World.ownsRow_nil w 0 (κ k).ty (κ k).sz) (by simpa [cap48] using c1)
      refine ⟨_, _, _, _, h, ?_⟩
      unfold OpOK
      rw [hex v' w' (by rw [hs]; exact r1)]
      exact new_rows hκ hf k m v' hH r3 (run_drawn _ _ _ _ _ r1) r2 (fun g hg => (r4 g hg).resolve_left (by simp [hb]))
    · simp [c1] at h
  · rename_i b hse
    simp only [AP.run] at h
    obtain ⟨own, l, hb', h⟩ := asRows h
    rw [hse] at hs
    have hs := sl_eval hb' hs
    cases own with
    | false => simp [AP.run] at h
    | true =>
      simp only [cond_true, AP.run] at h
      by_cases c1 : (l.length + m.length) * (κ k).bytes ≤ cap48
      · simp only [c1, decide_true, cond_true] at h
        obtain ⟨hf, h⟩ := run_newBlk h
        simp only [AP.run] at h
        have hbk := hH.blk b
        rw [hb'] at hbk
        have hown : w.ownsRow 0 (κ k).ty (κ k).sz (M b) l.length (flat (κ k) l) := hbk
        obtain ⟨v', w', r1, r2, r3, r4⟩ := key m hm (M b) l hown c1
        have hbn : b ≠ nm := by rintro rfl; rw [hf] at hb'; cases hb'
        refine ⟨_, _, _, _, h, ?_⟩
        unfold OpOK
        rw [hex v' w' (by rw [hs]; exact r1)]
        have hnm : (updH (updH H nm (.rows k true (l ++ m))) b .dead) nm = .rows k true (l ++ m) := by rw [updH_ne (Ne.symm hbn), updH_same]
        have hres := change hκ (M := M) (M' := updM M nm v') (H := H) (H' := updH (updH H nm (.rows k true (l ++ m))) b .dead) (w := w) (w' := w') (fun n => n = b ∨ n = nm) hH r3 (run_drawn _ _ _ _ _ r1)
          (fun g hg => ⟨b, .inl rfl, by rw [hb']; rfl, by simp only [ft, hb']; exact own_hb hg⟩)
          (fun n hn => by
            have h1 : n ≠ b := fun e => hn (.inl e)
            have h2 : n ≠ nm := fun e => hn (.inr e)
            exact ⟨by rw [updH_ne h1, updH_ne h2], updM_ne h2 _⟩)
          (keep_dead hH hf hb' _ _)
          (fun n hn => by
            rcases hn with rfl | rfl
            · rw [updH_same]; trivial
            · rw [hnm]; show w'.ownsRow 0 _ _ (updM M n v' n) _ _; rw [updM_same]; exact r2)
          (fun n g hn hg => by
            rcases hn with rfl | rfl
            · simp [ft, updH_same] at hg
            · simp only [ft, hnm, updM_same] at hg
              rcases r4 g hg with h5 | h5
              · exact .inr ⟨b, .inl rfl, by simp only [ft, hb']; exact h5, fun _ => by rw [hb']; rfl⟩
              · exact .inl h5)
          (fun n n' g hn hn' hne ho' hg hg' => by
            rcases hn with rfl | rfl
            · simp [updH_same, ownB] at ho'
            · rcases hn' with rfl | rfl
              · simp [ft, updH_same] at hg'
              · exact hne rfl)
          (fun n hn hnf => by
            rcases hn with rfl | rfl
            · exact updM_ne hbn _
            · exact absurd hf hnf)
          (fun n hn => by
            rcases hn with rfl | rfl
            · rw [hb', updH_same]; exact .inl rfl
            · rw [hf]; trivial)
        exact ⟨_, by simp only [RA, RL, hnm, updM_same], hres.1, hres.2⟩
      · simp [c1] at h
  · simp [AP.run] at h
end
end Go.Eng

/- Each operation of the machine does what the abstract run says: parts of slices, lengths, calls; all of them together. -/
set_option linter.unusedVariables false
set_option linter.unusedSimpArgs false
namespace Go.Eng
open Go
section
variable {κ : Nat → KT} {P : Program} {ti : TypeId → Option TI} {Γ : Ct κ}
variable {R : Type} {K : AV → Hp κ → List Nat → List Nat → Option R} {r : R} {M : Mu} {H : Hp κ} {w : World} {e : En} {a : Act} {o : Oper} {nm : Nat}
theorem elem_of {t e : TypeId} (h : P.underlying t = some (.slice e)) : P.elem t = e := by simp [Program.elem, h]
theorem rows_len (hκ : ∀ k, (κ k).Ok) {k : Nat} {own : Bool} {l : List (κ k).T} {b : Nat} (h : RB M H w b (.rows k own l)) :
    ∃ A c, M b = .slice A l.length c ∧ l.length ≤ c ∧ (A = none → c = 0) := by
  cases own with
  | true =>
    rcases (show w.ownsRow 0 _ _ (M b) _ _ from h).2 with ⟨h1, h2⟩ | ⟨g, cap, cur, h1, h2, h3, h4, _⟩
    · exact ⟨none, 0, by rw [h1, h2], by omega, fun _ => rfl⟩
    · exact ⟨_, cap, h1, h4, fun h => by cases h⟩
  | false =>
    obtain ⟨A, c, h1, h2, h3, _⟩ := h
    exact ⟨A, c, h1, h2, h3⟩
theorem flat_part (k : KT) (hk : k.Ok) (l : List k.T) (lo hi : Nat) (j : Nat) (u : Value) (h : (flat k ((l.take hi).drop lo))[j]? = some u) : (flat k l)[lo * k.sz + j]? = some u := by
  have e1 : l = (l.take hi).take lo ++ ((l.take hi).drop lo ++ l.drop hi) := by rw [← List.append_assoc, List.take_append_drop, List.take_append_drop]
  have hlen : lo ≤ (l.take hi).length := by
    rcases Nat.lt_or_ge (l.take hi).length lo with hl | hl
    · rw [List.drop_of_length_le (by omega)] at h; simp [flat] at h
    · exact hl
  have e2 : (flat k ((l.take hi).take lo)).length = lo * k.sz := by rw [flat_length k hk, List.length_take]; congr 1; omega
  rw [e1, flat_append, List.getElem?_append_right (by omega), e2, Nat.add_sub_cancel_left, flat_append, List.getElem?_append_left (List.getElem?_eq_some_iff.1 h).1]
  exact h
theorem sim_len (hκ : ∀ k, (κ k).Ok) (tok : ∀ t x, ti t = some x → TypeOK P κ t x) (hE : RE M H e a.tmps) (hH : RH M H w) (t : TypeId) (x : Operand) (y : TI) (hty : ti t = some y)
    (ho : o.op = .call { callee := .builtin .len, args := #[x], argTypes := #[t] }) (h : (lenA (κ := κ) y (evO e x)).run H [] [] K = some r) : Sim P o a M H w K r := by
  have hx := evO_RA hE x
  have hex : ∀ v', (Builtin.len_ #[t] o.type #[a.eval x]).run P w = .ok v' w → (execOp a.eval o).run P w = .ok (.value v') w := by
    intro v' hr
    simp only [execOp, ho, resolve, invoke, builtin, Sem.run_bind, Sem.run_pure, Result.andThen_ok, List.map_toArray, List.map_cons, List.map_nil, hr]
  unfold lenA at h
  split at h
  · rename_i b hxe
    cases hs : y.slk with
    | none => rw [hs] at h; simp [AP.run] at h
    | some k' =>
      rw [hs] at h
      simp only [Option.isSome_some, cond_true, AP.run] at h
      split at h
      · rename_i k own l hb'
        rw [hxe] at hx
        have hx := sl_eval hb' hx
        have hbk := hH.blk b
        rw [hb'] at hbk
        obtain ⟨A, c, h1, h2, h3⟩ := rows_len hκ hbk
        obtain ⟨u1, _⟩ := (tok t y hty).slk k' hs
        refine sim_value (c := .int .i64 (l.length : Int)) hH h (hex _ ?_) rfl
        rw [hx, h1]
        exact run_len_slice (P := P) w t o.type A l.length c (by rw [elem_of u1]; exact u1)
      · simp [AP.run] at h
  · rename_i hxe
    cases hs : y.slk with
    | none => rw [hs] at h; simp [AP.run] at h
    | some k' =>
      rw [hs] at h
      rw [hxe] at hx
      have hx : a.eval x = .slice none 0 0 := hx
      obtain ⟨u1, _⟩ := (tok t y hty).slk k' hs
      refine sim_value (c := .int .i64 0) hH h (hex _ ?_) rfl
      rw [hx]
      exact run_len_slice (P := P) w t o.type none 0 0 (by rw [elem_of u1]; exact u1)
  · rename_i s hxe
    cases hs : y.str with
    | false => rw [hs] at h; simp [AP.run] at h
    | true =>
      rw [hs] at h
      rw [hxe] at hx
      have hx : a.eval x = .string s := hx
      refine sim_value (c := .int .i64 (s.size : Int)) hH h (hex _ ?_) rfl
      rw [hx]
      exact run_len_string (P := P) w t o.type s ((tok t y hty).str hs)
  · simp [AP.run] at h
theorem sliceBounds_run (isS : Bool) (len cap : Nat) (lo hi : Option Value) (l h : Nat) (hlo : (lo = none ∧ l = 0) ∨ ∃ k, lo = some (.int k l)) (hhi : (hi = none ∧ h = len) ∨ ∃ k, hi = some (.int k h)) (h1 : l ≤ h) (h2 : h ≤ cap) :
    (Instr.sliceBounds isS len cap lo hi none).run P w = .ok (l, h, cap) w := by
  have e1 : ∀ (k : IntKind) c, (Instr.sliceBound (.int k (h : Int)) cap c).run P w = .ok h w := fun k c => by
    have := run_sliceBound (P := P) w k (h : Int) cap c (by omega) (by omega); simpa using this
  have e2 : ∀ (k : IntKind) c, (Instr.sliceBound (.int k (l : Int)) h c).run P w = .ok l w := fun k c => by
    have := run_sliceBound (P := P) w k (l : Int) h c (by omega) (by omega); simpa using this
  rcases hlo with ⟨rfl, rfl⟩ | ⟨kl, rfl⟩ <;> rcases hhi with ⟨rfl, rfl⟩ | ⟨kh, rfl⟩ <;> simp [Instr.sliceBounds, e1, e2]
/-- A view of a part of a slice. -/
theorem view_block (hκ : ∀ k, (κ k).Ok) (hH : RH M H w) {b k : Nat} {own : Bool} {xs : List (κ k).T} (hb' : H b = .rows k own xs) (hf : H nm = .fresh) (l h : Nat) (hlh : l ≤ h) (hh : h ≤ xs.length)
    (A : Option Addr) (cap : Nat) (hm : M b = .slice A xs.length cap) :
    G M H w (.v (.sl nm)) (updH (updH H nm (.rows k false ((xs.take h).drop l))) b (.rows k false xs)) (sliced A l h cap (κ k).sz) w := by
  have hbn : b ≠ nm := by rintro rfl; rw [hf] at hb'; cases hb'
  have hbk := hH.blk b
  rw [hb'] at hbk
  obtain ⟨A', c', g1, g2, g3⟩ := rows_len hκ hbk
  rw [hm] at g1
  obtain ⟨rfl, rfl⟩ : A = A' ∧ cap = c' := by simpa using g1
  have hlen : ((xs.take h).drop l).length = h - l := by simp; omega
  let v' : Value := sliced A l h cap (κ k).sz
  let H1 : Hp κ := updH H nm (.rows k false ((xs.take h).drop l))
  let H' : Hp κ := updH H1 b (.rows k false xs)
  have e1 : H1 b = .rows k own xs := by show updH H nm _ b = _; rw [updH_ne hbn]; exact hb'
  have e2 : H' nm = .rows k false ((xs.take h).drop l) := by show updH H1 b _ nm = _; rw [updH_ne (Ne.symm hbn)]; exact updH_same _ _
  have e3 : H' b = .rows k false xs := updH_same _ _
  have hkeep : ∀ y c, RL M H y c → RL (updM M nm v') H' y c := fun y c hy => keep_rows (own' := false) e1 rfl y c (keep_new hf _ _ y c hy)
  have hcells : 0 < xs.length → ∃ ad, A = some ad ∧ ∀ (j : Nat) u, (flat (κ k) xs)[j]? = some u → w.cell? (ad.add j) = some u := by
    intro hp
    obtain ⟨ad, n, cap', hm', hc⟩ := rows_cells hκ hbk hp
    rw [hm] at hm'
    injection hm' with hA
    exact ⟨ad, hA, hc⟩
  have hres := change hκ (M := M) (M' := updM M nm v') (H := H) (H' := H') (w := w) (w' := w) (row := none) (fun n => n = b ∨ n = nm) hH ⟨rfl, rfl, rfl, Nat.le_refl _, fun _ _ _ => rfl⟩ (Nat.le_refl _)
    (fun g hg => by cases hg)
    (fun n hn => by
      have h1 : n ≠ b := fun e => hn (.inl e)
      have h2 : n ≠ nm := fun e => hn (.inr e)
      exact ⟨by show updH H1 b _ n = _; rw [updH_ne h1]; exact updH_ne h2 _, updM_ne h2 _⟩)
    hkeep
    (fun n hn => by
      rcases hn with rfl | rfl
      · rw [e3]
        exact ⟨A, cap, by rw [updM_ne hbn]; exact hm, g2, g3, hcells⟩
      · rw [e2]
        refine ⟨if cap = l then A else A.map (·.add (l * (κ k).sz)), cap - l, ?_, by omega, ?_, fun hp => ?_⟩
        · rw [updM_same, hlen]; rfl
        · intro hA
          split at hA
          · have := g3 hA; omega
          · cases A with
            | none => have := g3 rfl; omega
            | some ad => cases hA
        · obtain ⟨ad, rfl, hc⟩ := hcells (by omega)
          have hne : ¬ cap = l := by omega
          refine ⟨ad.add (l * (κ k).sz), by simp [hne], fun j u hj => ?_⟩
          rw [add_add]
          exact hc _ u (flat_part (κ k) (hκ k) xs l h j u hj))
    (fun n g hn hg => by
      right
      rcases hn with rfl | rfl
      · refine ⟨n, .inl rfl, ?_, fun ho => by rw [e3] at ho; cases ho⟩
        simp only [ft, e3, updM_ne hbn] at hg
        split at hg
        · cases hg
        · rename_i hne
          simp only [ft, hb']
          cases own
          · simp only; rw [if_neg hne]; exact hg
          · exact hg
      · refine ⟨b, .inl rfl, ?_, fun ho => by rw [e2] at ho; cases ho⟩
        simp only [ft, e2, updM_same] at hg
        split at hg
        · cases hg
        · rename_i hne
          obtain ⟨ad, rfl, _⟩ := hcells (by omega)
          have hne2 : ¬ cap = l := by omega
          have hblk : (ad.add (l * (κ k).sz)).block = ad.block := by unfold Addr.add; split <;> rfl
          have hg2 : some ad.block = some g := by
            simp only [v', sliced, if_neg hne2, Option.map_some, hb, hblk] at hg; exact hg
          simp only [ft, hb', hm, hb]
          cases own
          · simp only; rw [if_neg (by omega)]; exact hg2
          · exact hg2)
    (fun n n' g hn hn' hne ho' hg => by
      rcases hn with rfl | rfl
      · rw [e3] at ho'; cases ho'
      · rw [e2] at ho'; cases ho')
    (fun n hn hnf => by
      rcases hn with rfl | rfl
      · exact updM_ne hbn _
      · exact absurd hf hnf)
    (fun n hn => by
      rcases hn with rfl | rfl
      · rw [hb', e3]
        cases own
        · rfl
        · exact .inr ⟨_, _, rfl, rfl⟩
      · rw [hf]; trivial)
  refine ⟨updM M nm v', ?_, hres.1, hres.2⟩
  show RL _ H' (.sl nm) _
  simp only [RL, e2]
  exact (updM_same _ _).symm
theorem sim_slice (hκ : ∀ k, (κ k).Ok) (tok : ∀ t x, ti t = some x → TypeOK P κ t x) (hE : RE M H e a.tmps) (hH : RH M H w) (t : TypeId) (x : Operand) (lo hi mx : Option Operand) (ho : o.op = .slice t x lo hi mx) (h : (aop ti Γ nm e o.op).run H [] [] K = some r) : Sim P o a M H w K r := by
  rw [ho] at h
  have hx := evO_RA hE x
  simp only [aop] at h
  split at h
  · rename_i y hty
    -- the bounds, on both sides
    have bnd : ∀ (q : Option Operand) (n : Int), (q.map (evO e)) = some (.v (.int .i64 n)) ∨ (∃ k, (q.map (evO e)) = some (.v (.int k n))) → ∃ k, q.map a.eval = some (.int k n) := by
      intro q n hq
      obtain ⟨k, hq⟩ : ∃ k, (q.map (evO e)) = some (.v (.int k n)) := by rcases hq with hq | hq; exact ⟨_, hq⟩; exact hq
      cases q with
      | none => cases hq
      | some q =>
        have := evO_RA hE q
        simp only [Option.map_some, Option.some.injEq] at hq ⊢
        rw [hq] at this
        exact ⟨k, this⟩
    have bno : ∀ (q : Option Operand), (q.map (evO e)) = none → q.map a.eval = none := by
      intro q hq; cases q with
      | none => rfl
      | some q => cases hq
    unfold sliceA at h
    split at h
    · -- a string
      rename_i s hxe
      rw [hxe] at hx
      have hx : a.eval x = .string s := hx
      cases hs : y.str with
      | false => rw [hs] at h; simp [AP.run] at h
      | true =>
        rw [hs] at h
        simp only [Bool.not_true, cond_false] at h
        have hu := (tok t y hty).str hs
        split at h
        · simp [AP.run] at h
        · rename_i hmx
          have hmx' := bno mx hmx
          have go : ∀ (l hh : Int), (AP.ite (κ := κ) (decide (0 ≤ hh)) (.ite (decide (hh ≤ (s.size : Int))) (.ite (decide (0 ≤ l)) (.ite (decide (l ≤ hh)) (.ret (.v (.str (s.extract l.toNat hh.toNat)))) .fail) .fail) .fail) .fail).run H [] [] K = some r →
              ((lo.map a.eval = none ∧ l = 0) ∨ ∃ k, lo.map a.eval = some (.int k l)) → ((hi.map a.eval = none ∧ hh = s.size) ∨ ∃ k, hi.map a.eval = some (.int k hh)) → Sim P o a M H w K r := by
            intro l hh h hl1 hh1
            simp only [AP.run] at h
            by_cases c1 : 0 ≤ hh
            · by_cases c2 : hh ≤ (s.size : Int)
              · by_cases c3 : 0 ≤ l
                · by_cases c4 : l ≤ hh
                  · simp only [c1, c2, c3, c4, decide_true, cond_true] at h
                    obtain ⟨l, rfl⟩ : ∃ n : Nat, l = (n : Int) := ⟨l.toNat, by omega⟩
                    obtain ⟨hh, rfl⟩ : ∃ n : Nat, hh = (n : Int) := ⟨hh.toNat, by omega⟩
                    simp only [Int.toNat_natCast] at h
                    have hb := sliceBounds_run (P := P) (w := w) false s.size s.size (lo.map a.eval) (hi.map a.eval) l hh (by rcases hl1 with ⟨e1, e2⟩ | e1; exact .inl ⟨e1, by omega⟩; exact .inr e1) (by rcases hh1 with ⟨e1, e2⟩ | e1; exact .inl ⟨e1, by omega⟩; exact .inr e1) (by omega) (by omega)
                    refine sim_value (c := .string (s.extract l hh)) hH h ?_ rfl
                    simp only [execOp, ho, hx, hmx', Sem.run_bind, run_sliceAt_string (P := P) w t _ _ _ _ hu]
                    simp [Instr.slice, run_underlying hu, hb]
                  · simp [c1, c2, c3, c4] at h
                · simp [c1, c2, c3] at h
              · simp [c1, c2] at h
            · simp [c1] at h
          split at h
          · rename_i k1 l k2 hh e1 e2
            exact go l hh h (.inr (bnd lo l (.inr ⟨_, e1⟩))) (.inr (bnd hi hh (.inr ⟨_, e2⟩)))
          · rename_i k1 l e1 e2
            exact go l s.size h (.inr (bnd lo l (.inr ⟨_, e1⟩))) (.inl ⟨bno hi e2, rfl⟩)
          · rename_i k2 hh e1 e2
            exact go 0 hh h (.inl ⟨bno lo e1, rfl⟩) (.inr (bnd hi hh (.inr ⟨_, e2⟩)))
          · rename_i e1 e2
            exact go 0 s.size h (.inl ⟨bno lo e1, rfl⟩) (.inl ⟨bno hi e2, rfl⟩)
          · simp [AP.run] at h
    · -- a slice
      rename_i b hxe
      simp only [AP.run] at h
      split at h
      · rename_i k own xs hb'
        rw [hxe] at hx
        have hx := sl_eval hb' hx
        have hbk := hH.blk b
        rw [hb'] at hbk
        obtain ⟨A, cap, m1, m2, m3⟩ := rows_len hκ hbk
        cases hsk : y.slk with
        | none => rw [hsk] at h; simp [AP.run] at h
        | some k' =>
          rw [hsk] at h
          cases hkk : Nat.beq k k' with
          | false => simp [hkk, AP.run] at h
          | true =>
            obtain rfl := Nat.eq_of_beq_eq_true hkk
            simp only [hkk, Bool.not_true, cond_false] at h
            obtain ⟨u1, inf, z, u2, u3, _⟩ := (tok t y hty).slk k hsk
            have hue : P.underlying t = some (.slice (P.elem t)) := by rw [elem_of u1]; exact u1
            split at h
            · simp [AP.run] at h
            · rename_i hmx
              have hmx' := bno mx hmx
              have go : ∀ (l hh : Int), (AP.ite (κ := κ) (decide (0 ≤ hh)) (.ite (decide (hh ≤ (xs.length : Int))) (.ite (decide (0 ≤ l)) (.ite (decide (l ≤ hh))
                  (newBlk nm (.rows k false ((xs.take hh.toNat).drop l.toNat)) (bif own then .put b (.rows k false xs) (.ret (.v (.sl nm))) else .ret (.v (.sl nm)))) .fail) .fail) .fail) .fail).run H [b] [] K = some r →
                  ((lo.map a.eval = none ∧ l = 0) ∨ ∃ k, lo.map a.eval = some (.int k l)) → ((hi.map a.eval = none ∧ hh = xs.length) ∨ ∃ k, hi.map a.eval = some (.int k hh)) → Sim P o a M H w K r := by
                intro l hh h hl1 hh1
                simp only [AP.run] at h
                by_cases c1 : 0 ≤ hh
                · by_cases c2 : hh ≤ (xs.length : Int)
                  · by_cases c3 : 0 ≤ l
                    · by_cases c4 : l ≤ hh
                      · simp only [c1, c2, c3, c4, decide_true, cond_true] at h
                        obtain ⟨hf, h⟩ := run_newBlk h
                        have h : ∃ rs ws, K (.v (.sl nm)) (updH (updH H nm (.rows k false ((xs.take hh.toNat).drop l.toNat))) b (.rows k false xs)) rs ws = some r := by
                          cases own with
                          | true => exact ⟨_, _, h⟩
                          | false =>
                            have e : updH (updH H nm (.rows k false ((xs.take hh.toNat).drop l.toNat))) b (.rows k false xs) = updH H nm (.rows k false ((xs.take hh.toNat).drop l.toNat)) := by
                              funext n
                              by_cases hn : n = b
                              · subst hn
                                rw [updH_same, updH_ne (by rintro rfl; rw [hb'] at hf; cases hf), hb']
                              · rw [updH_ne hn]
                            rw [e]; exact ⟨_, _, h⟩
                        obtain ⟨rs9, ws9, h⟩ := h
                        obtain ⟨l, rfl⟩ : ∃ n : Nat, l = (n : Int) := ⟨l.toNat, by omega⟩
                        obtain ⟨hh, rfl⟩ : ∃ n : Nat, hh = (n : Int) := ⟨hh.toNat, by omega⟩
                        simp only [Int.toNat_natCast] at h
                        have hb := sliceBounds_run (P := P) (w := w) true xs.length cap (lo.map a.eval) (hi.map a.eval) l hh (by rcases hl1 with ⟨e1, e2⟩ | e1; exact .inl ⟨e1, by omega⟩; exact .inr e1) (by rcases hh1 with ⟨e1, e2⟩ | e1; exact .inl ⟨e1, by omega⟩; exact .inr e1) (by omega) (by omega)
                        refine ⟨_, _, _, _, h, ?_⟩
                        unfold OpOK
                        have hrun : (execOp a.eval o).run P w = .ok (.value (sliced A l hh cap (κ k).sz)) w := by
                          simp only [execOp, ho, hx, m1, hmx', Sem.run_bind, run_sliceAt_slice (P := P) w t _ _ _ _ hue, run_slice_any (P := P) w t A xs.length cap hue, hb, Result.andThen_ok]
                          simp [sizeOf, typeInfo, elem_of u1, u2, u3]
                        rw [hrun]
                        exact view_block hκ hH hb' hf l hh (by omega) (by omega) A cap m1
                      · simp [c1, c2, c3, c4] at h
                    · simp [c1, c2, c3] at h
                  · simp [c1, c2] at h
                · simp [c1] at h
              split at h
              · rename_i k1 l k2 hh e1 e2
                exact go l hh h (.inr (bnd lo l (.inr ⟨_, e1⟩))) (.inr (bnd hi hh (.inr ⟨_, e2⟩)))
              · rename_i k1 l e1 e2
                exact go l xs.length h (.inr (bnd lo l (.inr ⟨_, e1⟩))) (.inl ⟨bno hi e2, rfl⟩)
              · rename_i k2 hh e1 e2
                exact go 0 hh h (.inl ⟨bno lo e1, rfl⟩) (.inr (bnd hi hh (.inr ⟨_, e2⟩)))
              · rename_i e1 e2
                exact go 0 xs.length h (.inl ⟨bno lo e1, rfl⟩) (.inl ⟨bno hi e2, rfl⟩)
              · simp [AP.run] at h
      · simp [AP.run] at h
    · simp [AP.run] at h
  · simp [AP.run] at h
theorem sim_call (hΓ : ∀ f g, Γ f = some g → CSound P f g) (hE : RE M H e a.tmps) (hH : RH M H w) (f : FuncId) (c : Call) (hc : c.callee = .value (.func f)) (g : Nat → List AV → AP κ AV) (hg : Γ f = some g)
    (ho : o.op = .call c) (h : (g nm (c.args.toList.map (evO e))).run H [] [] K = some r) : Sim P o a M H w K r := by
  have hs := hΓ f g hg
  obtain ⟨v, H', rs, ws, hK, hcalls⟩ := hs.does nm (c.args.toList.map (evO e)) (c.args.map a.eval) M H w K r (by simp) (fun j x u h1 h2 => by
    rw [List.getElem?_map] at h1
    rw [Array.getElem?_map] at h2
    cases hj : c.args[j]? with
    | none => rw [hj] at h2; cases h2
    | some y =>
      have hj' : c.args.toList[j]? = some y := by simpa using hj
      rw [hj'] at h1
      rw [hj] at h2
      simp only [Option.map_some, Option.some.injEq] at h1 h2
      subst h1; subst h2
      exact evO_RA hE y) hH h
  refine ⟨v, H', rs, ws, hK, ?_⟩
  unfold OpOK
  have hrun : (execOp a.eval o).run P w = .ok (.enter f (c.args.map a.eval)) w := by
    have he := hs.enter (c.args.map a.eval) w
    simp [execOp, ho, resolve, hc, Act.eval, Deferred.ofValue, invoke, he]
  rw [hrun]
  exact hcalls
/-- Every operation. -/
theorem u8s_vals : ∀ (cs : List LV) (ns : List Int), u8s cs = some ns → cs.map LV.val = ns.map (Value.int .u8)
  | [], ns, h => by obtain rfl := Option.some.inj h; rfl
  | c :: cs, ns, h => by
    unfold u8s at h
    split at h
    · rename_i h0; cases h0
    · rename_i n r h0
      obtain ⟨rfl, rfl⟩ := List.cons.inj h0
      obtain ⟨ms, h1, rfl⟩ := Option.map_eq_some_iff.1 h
      simp only [List.map_cons, u8s_vals _ ms h1]
      rfl
    · cases h
theorem flat_enc (k : KT) (l : List k.T) : flat k l = (l.flatMap k.enc).map LV.val := by
  induction l with
  | nil => rfl
  | cons x l ih => rw [flat_cons, ih, List.flatMap_cons, List.map_append]
theorem isU8_under {P : Program} {κ : Nat → KT} {ti : TypeId → Option TI} (tok : ∀ t x, ti t = some x → TypeOK P κ t x) {t : TypeId} (h : isU8 (ti t) = true) : P.underlying t = some (.int .u8) := by
  unfold isU8 at h
  split at h
  · rename_i z hz
    split at h
    · rename_i hk
      exact (tok t z hz).knd .u8 hk
    · cases h
  · cases h
theorem sim_convert (hκ : ∀ k, (κ k).Ok) (tok : ∀ t x, ti t = some x → TypeOK P κ t x) (hE : RE M H e a.tmps) (hH : RH M H w) (t t' : TypeId) (x : Operand) (ho : o.op = .convert t t' x) (h : (aop ti Γ nm e o.op).run H [] [] K = some r) : Sim P o a M H w K r := by
  rw [ho] at h
  have hx := evO_RA hE x
  simp only [aop] at h
  split at h
  · rename_i k n y0 y hxe ht0 hty
    rw [hxe] at hx
    have hx : a.eval x = .int k n := hx
    split at h
    · rename_i k' hk'
      obtain ⟨i0, d0, z0, e1, e2, _⟩ := (tok t y0 ht0).ex
      have h1 := (tok t' y hty).knd k' hk'
      exact sim_value hH h (by simp [execOp, ho, hx, convert, run_underlying e2, run_underlying h1, Conv.intToInt]) rfl
    · simp [AP.run] at h
  · rename_i b y0 y hxe ht0 hty
    rw [hxe] at hx
    split at h
    · rename_i k hk
      cases hb : y.str && (isU8 (ti (κ k).ty) && Nat.beq (κ k).sz 1) with
      | false => rw [hb] at h; simp [AP.run] at h
      | true =>
        rw [hb] at h
        rw [Bool.and_eq_true, Bool.and_eq_true] at hb
        obtain ⟨hb1, hb2, hb3⟩ := hb
        simp only [cond_true, AP.run] at h
        obtain ⟨own, l, hbl, h⟩ := asRows h
        split at h
        · rename_i ns hns
          have hx := sl_eval hbl hx
          have hbk := hH.blk b
          rw [hbl] at hbk
          have hsrc := rows_src hκ hbk
          rw [← hx] at hsrc
          have hd := (tok t' y hty).str hb1
          have he := isU8_under tok hb2
          obtain ⟨hs, _⟩ := (tok t y0 ht0).slk k hk
          have hv := u8s_vals _ ns hns
          rw [← flat_enc] at hv
          refine sim_value (c := .string (strB ns)) hH h ?_ rfl
          rcases hsrc with ⟨e1, rfl⟩ | ⟨ad, cap, e1, hc⟩
          · have : ns = [] := by simpa [flat] using hv.symm
            subst this
            simp only [execOp, ho, e1, Sem.run_bind, run_convert_bytes_string w t t' _ _ _ _ hs he hd]
            rfl
          · have hlen : l.length = (flat (κ k) l).length := by
              rw [flat_length (κ k) (hκ k) l, Nat.eq_of_beq_eq_true hb3, Nat.mul_one]
            have hl := run_loadCells_list (P := P) w ad (flat (κ k) l) hc
            rw [← hlen, hv] at hl
            simp only [execOp, ho, e1, Sem.run_bind, run_convert_bytes_string w t t' _ _ _ _ hs he hd, run_bytesToString w ad _ cap ns hl, foldl_push_bytes, Result.andThen_ok, Sem.run_pure]
            unfold strB
            simp [ByteArray.empty, ByteArray.emptyWithCapacity]
            rfl
        · simp [AP.run] at h
    · simp [AP.run] at h
  · simp [AP.run] at h
theorem sim_op (hκ : ∀ k, (κ k).Ok) (tok : ∀ t x, ti t = some x → TypeOK P κ t x) (hΓ : ∀ f g, Γ f = some g → CSound P f g) (hE : RE M H e a.tmps) (hH : RH M H w)
    (h : (aop ti Γ nm e o.op).run H [] [] K = some r) : Sim P o a M H w K r := by
  cases ho : o.op with
  | move x => exact sim_move hE hH x (.inl ho) h
  | assign x => exact sim_move hE hH x (.inr ho) h
  | pick c x y => exact sim_pick hE hH c x y ho h
  | alloc t => exact sim_alloc hκ tok hH t ho h
  | box t x => exact sim_box hκ hE hH t x ho h
  | build t ps => exact sim_build tok hE hH t ps ho h
  | buildSlice t n ps => exact sim_buildSlice hκ tok hE hH t n ps ho h
  | load t x => exact sim_load hκ tok hE hH t x ho h
  | store t x v => exact sim_store hκ tok hE hH t x v ho h
  | nilCheck x => exact sim_nilCheck hE hH x ho h
  | binOp op t x y t' => exact sim_binOp tok hE hH op t t' x y ho h
  | unOp u t x => exact sim_unOp hE hH u t x ho h
  | convert t t' x => exact sim_convert hκ tok hE hH t t' x ho h
  | makeSlice t l c => exact sim_makeSlice hκ tok hE hH t l c ho h
  | slice t x lo hi mx => exact sim_slice hκ tok hE hH t x lo hi mx ho h
  | fieldAddr t x f => exact sim_fieldAddr tok hE hH t x f ho h
  | field t x f => exact sim_field tok hE hH t x f ho h
  | indexAddr t x ix => exact sim_indexAddr hκ tok hE hH t x ix ho h
  | index t x ix => exact sim_index tok hE hH t x ix ho h
  | extract x i => exact sim_extract hE hH x i ho h
  | call c =>
    rw [ho] at h
    simp only [aop] at h
    split at h
    · rename_i f hc
      split at h
      · rename_i g hg
        exact sim_call hΓ hE hH f c hc g hg ho h
      · simp [AP.run] at h
    · rename_i hc
      split at h
      · rename_i x t hargs hts
        split at h
        · rename_i y hty
          refine sim_len hκ tok hE hH t x y hty ?_ h
          rw [ho]
          obtain ⟨callee, args, argTypes⟩ := c
          simp only at hc hargs hts
          have ea : ∀ {α : Type} {p : Array α} {l : List α}, p.toList = l → p = l.toArray := fun h => by rw [← h]
          rw [ea hargs, ea hts]
          rw [hc]
        · simp [AP.run] at h
      · simp [AP.run] at h
    · rename_i hc
      split at h
      · rename_i s x t t' hargs hts
        cases htt : Nat.beq t t' with
        | false => rw [htt] at h; simp [AP.run] at h
        | true =>
          obtain rfl := Nat.eq_of_beq_eq_true htt
          rw [htt] at h
          simp only [cond_true] at h
          split at h
          · rename_i y hty
            split at h
            · rename_i k hk
              refine sim_append hκ tok hE hH s x t y k hty hk ?_ h
              rw [ho]
              obtain ⟨callee, args, argTypes⟩ := c
              simp only at hc hargs hts
              have ea : ∀ {α : Type} {p : Array α} {l : List α}, p.toList = l → p = l.toArray := fun h => by rw [← h]
              rw [ea hargs, ea hts]
              rw [hc]
            · simp [AP.run] at h
          · simp [AP.run] at h
      · simp [AP.run] at h
    · simp [AP.run] at h
  | _ => rw [ho] at h; simp [aop, AP.run] at h
end
end Go.Eng

/- Regions: in the text's order, and in any order that the machine draws. -/
set_option linter.unusedVariables false
set_option linter.unusedSimpArgs false
namespace Go.Eng
open Go
section
variable {κ : Nat → KT} {P : Program} {ti : TypeId → Option TI} {Γ : Ct κ}
/-! ### the run of a program over blocks, told apart from what follows -/
def AP.exec {α : Type} : AP κ α → Hp κ → Option (α × Hp κ × List Nat × List Nat)
  | .ret a, h => some (a, h, [], [])
  | .get b k, h => ((k (h b)).exec h).map fun q => (q.1, q.2.1, q.2.2.1 ++ [b], q.2.2.2)
  | .put b x k, h => (k.exec (updH h b x)).map fun q => (q.1, q.2.1, q.2.2.1, q.2.2.2 ++ [b])
  | .lift o k, h => o.bind fun y => (k y).exec h
  | .ite c x y, h => bif c then x.exec h else y.exec h
  | .fail, _ => none
theorem run_exec {α R : Type} (p : AP κ α) : ∀ (h : Hp κ) (rs ws : List Nat) (K : α → Hp κ → List Nat → List Nat → Option R),
    p.run h rs ws K = (p.exec h).bind fun q => K q.1 q.2.1 (q.2.2.1 ++ rs) (q.2.2.2 ++ ws) := by
  induction p with
  | ret a => intro h rs ws K; simp [AP.run, AP.exec]
  | get b k ih =>
    intro h rs ws K
    simp only [AP.run, AP.exec, ih]
    cases (k (h b)).exec h <;> simp
  | put b x k ih =>
    intro h rs ws K
    simp only [AP.run, AP.exec, ih]
    cases k.exec (updH h b x) <;> simp
  | lift o k ih =>
    intro h rs ws K
    simp only [AP.run, AP.exec]
    cases o with
    | none => rfl
    | some y => simp only [Option.bind_some]; exact ih y h rs ws K
  | ite c x y ihx ihy =>
    intro h rs ws K
    cases c
    · simpa [AP.run, AP.exec] using ihy h rs ws K
    · simpa [AP.run, AP.exec] using ihx h rs ws K
  | fail => intro h rs ws K; rfl
theorem exec_det {α : Type} (p : AP κ α) : ∀ (H H2 : Hp κ) v h rs ws, p.exec H = some (v, h, rs, ws) → (∀ b ∈ rs, H b = H2 b) →
    ∃ h2, p.exec H2 = some (v, h2, rs, ws) ∧ (∀ b ∈ ws, h2 b = h b) ∧ (∀ b, b ∉ ws → h2 b = H2 b ∧ h b = H b) := by
  induction p with
  | ret a =>
    intro H H2 v h rs ws he hr
    simp only [AP.exec, Option.some.injEq, Prod.mk.injEq] at he
    obtain ⟨rfl, rfl, rfl, rfl⟩ := he
    exact ⟨H2, rfl, by simp, fun b _ => ⟨rfl, rfl⟩⟩
  | get b k ih =>
    intro H H2 v h rs ws he hr
    simp only [AP.exec] at he
    obtain ⟨q, hq, he⟩ := Option.map_eq_some_iff.1 he
    obtain ⟨v0, h0, rs0, ws0⟩ := q
    simp only [Prod.mk.injEq] at he
    obtain ⟨rfl, rfl, rfl, rfl⟩ := he
    have hb : H b = H2 b := hr b (by simp)
    obtain ⟨h2, h3, h4, h5⟩ := ih (H b) H H2 _ _ _ _ hq (fun n hn => hr n (by simp [hn]))
    exact ⟨h2, by simp only [AP.exec]; rw [← hb, h3]; rfl, h4, h5⟩
  | put b x k ih =>
    intro H H2 v h rs ws he hr
    simp only [AP.exec] at he
    obtain ⟨q, hq, he⟩ := Option.map_eq_some_iff.1 he
    obtain ⟨v0, h0, rs0, ws0⟩ := q
    simp only [Prod.mk.injEq] at he
    obtain ⟨rfl, rfl, rfl, rfl⟩ := he
    obtain ⟨h2, h3, h4, h5⟩ := ih (updH H b x) (updH H2 b x) _ _ _ _ hq (fun n hn => by
      by_cases hnb : n = b
      · subst hnb; rw [updH_same, updH_same]
      · rw [updH_ne hnb, updH_ne hnb]; exact hr n hn)
    refine ⟨h2, by simp only [AP.exec]; rw [h3]; rfl, fun n hn => ?_, fun n hn => ?_⟩
    · by_cases hnw : n ∈ ws0
      · exact h4 n hnw
      · have hnb : n = b := by simpa [hnw] using hn
        subst hnb
        obtain ⟨e1, e2⟩ := h5 n hnw
        rw [e1, e2, updH_same, updH_same]
    · have hnw : n ∉ ws0 := fun h => hn (by simp [h])
      have hnb : n ≠ b := fun h => hn (by simp [h])
      obtain ⟨e1, e2⟩ := h5 n hnw
      rw [e1, e2, updH_ne hnb, updH_ne hnb]
      exact ⟨rfl, rfl⟩
  | lift o k ih =>
    intro H H2 v h rs ws he hr
    simp only [AP.exec] at he
    obtain ⟨y, hy, he⟩ := Option.bind_eq_some_iff.1 he
    obtain ⟨h2, h3, h4⟩ := ih y H H2 v h rs ws he hr
    exact ⟨h2, by simp only [AP.exec, hy, Option.bind_some]; exact h3, h4⟩
  | ite c x y ihx ihy =>
    intro H H2 v h rs ws he hr
    cases c
    · simpa [AP.exec] using ihy H H2 v h rs ws (by simpa [AP.exec] using he) hr
    · simpa [AP.exec] using ihx H H2 v h rs ws (by simpa [AP.exec] using he) hr
  | fail => intro H H2 v h rs ws he; cases he
theorem evO_list {e e' : En} {l : List Operand} (h : ∀ x ∈ l, evO e x = evO e' x) : l.map (evO e) = l.map (evO e') := List.map_congr_left h
theorem aop_congr {nm : Nat} {e e' : En} (op : Op) (h : ∀ x ∈ op.operands, evO e x = evO e' x) : aop ti Γ nm e op = aop ti Γ nm e' op := by
  have pairs : ∀ ps : Array (Nat × Operand), (∀ x ∈ (ps.toList.map (·.2)).toArray, evO e x = evO e' x) → (ps.toList.map fun p => (p.1, evO e p.2)) = (ps.toList.map fun p => (p.1, evO e' p.2)) := fun ps hp =>
    List.map_congr_left fun p hm => by
      rw [hp p.2 (by simpa using ⟨p.1, by simpa using hm⟩)]
  cases op <;> simp only [Op.operands] at h <;> simp only [aop]
  case build t ps => rw [pairs ps h]
  case buildSlice t n ps => rw [pairs ps h]
  case slice t x lo hi mx => cases lo <;> cases hi <;> cases mx <;> simp_all
  case call c =>
    have hargs : c.args.toList.map (evO e) = c.args.toList.map (evO e') := evO_list fun x hx => h x (by simp [Call.operands, (Array.mem_toList_iff.1 hx)])
    split
    · rw [hargs]
    · split
      · rename_i x t hx ht
        have : evO e x = evO e' x := h x (by simp [Call.operands]; right; exact Array.mem_toList_iff.1 (by rw [hx]; simp))
        rw [this]
      · rfl
    · split
      · rename_i s x t t' hx ht
        have h1 : evO e s = evO e' s := h s (by simp [Call.operands]; right; exact Array.mem_toList_iff.1 (by rw [hx]; simp))
        have h2 : evO e x = evO e' x := h x (by simp [Call.operands]; right; exact Array.mem_toList_iff.1 (by rw [hx]; simp))
        rw [h1, h2]
      · rfl
    · rfl
  all_goals (first | rfl | (simp_all; done))

/-! ### one operation of a region, by its number -/
abbrev S2 (κ : Nat → KT) := En × Hp κ
def wantA (ops : List Oper) (e : En) (o : Oper) : Option Bool :=
  match o.guard with
  | none => some true
  | some (j, want) => match gslot ops j with
    | some t => match e t with
      | .v (.bool q) => some (q == want)
      | .tup [] => some false
      | _ => none
    | none => none
def exO (ti : TypeId → Option TI) (Γ : Ct κ) (ops : List Oper) (nx i : Nat) (o : Oper) (s : S2 κ) : Option (S2 κ × Fp) :=
  match wantA ops s.1 o with
  | some true => ((aop ti Γ (nx + 32 * i) s.1 o.op).exec s.2).map fun q => ((putE s.1 o.dst q.1, q.2.1), ⟨q.2.2.1, q.2.2.2⟩)
  | some false => some ((putE s.1 o.dst (.tup []), s.2), ⟨[], []⟩)
  | none => none
/-- In the text's order. -/
def lexR (ti : TypeId → Option TI) (Γ : Ct κ) (ops : List Oper) (nx : Nat) : List Oper → Nat → S2 κ → Option (S2 κ × List Fp)
  | [], _, s => some (s, [])
  | o :: os, i, s => (exO ti Γ ops nx i o s).bind fun q => (lexR ti Γ ops nx os (i + 1) q.1).map fun q' => (q'.1, q.2 :: q'.2)
theorem litE_same {e : En} {t : Nat} {q : Bool} (h : e t = .v (.bool q)) : litE e t q = e := by
  funext n
  unfold litE updE
  cases hn : Nat.beq n t with
  | false => rfl
  | true => rw [Nat.eq_of_beq_eq_true hn, h]; rfl
theorem opsRun_lex {R : Type} {all : List Oper} : ∀ (os : List Oper) (i : Nat) (tr : List Fp) (s : St κ) (K : St κ → List Fp → Option R) (r : R), opsRun ti Γ all os i tr s K = some r →
    ∃ s' fs, lexR ti Γ all s.nx os i (s.env, s.H) = some (s', fs) ∧ K ⟨s'.1, s'.2, s.nx⟩ (fs.reverse ++ tr) = some r
  | [], i, tr, s, K, r, h => ⟨(s.env, s.H), [], rfl, by simpa [opsRun] using h⟩
  | o :: os, i, tr, s, K, r, h => by
    have step : ∀ (K' : St κ → Fp → Option R), stepO ti Γ o (s.nx + 32 * i) s K' = some r → wantA all s.env o = some true → ∃ s1 f, exO ti Γ all s.nx i o (s.env, s.H) = some (s1, f) ∧ K' ⟨s1.1, s1.2, s.nx⟩ f = some r := by
      intro K' hk hw
      unfold stepO at hk
      rw [run_exec] at hk
      obtain ⟨q, hq, hk⟩ := Option.bind_eq_some_iff.1 hk
      refine ⟨_, _, by simp only [exO, hw, hq, Option.map_some]; rfl, ?_⟩
      simpa using hk
    have fin : ∀ s1 f, exO ti Γ all s.nx i o (s.env, s.H) = some (s1, f) → opsRun ti Γ all os (i + 1) (f :: tr) ⟨s1.1, s1.2, s.nx⟩ K = some r →
        ∃ s' fs, lexR ti Γ all s.nx (o :: os) i (s.env, s.H) = some (s', fs) ∧ K ⟨s'.1, s'.2, s.nx⟩ (fs.reverse ++ tr) = some r := by
      intro s1 f h1 h2
      obtain ⟨s', fs, h3, h4⟩ := opsRun_lex os (i + 1) (f :: tr) ⟨s1.1, s1.2, s.nx⟩ K r h2
      exact ⟨s', f :: fs, by simp only [lexR, h1, Option.bind_some]; simp only at h3; rw [h3]; rfl, by simpa using h4⟩
    simp only [opsRun] at h
    split at h
    · rename_i hg
      obtain ⟨s1, f, h1, h2⟩ := step _ h (by simp [wantA, hg])
      exact fin s1 f h1 h2
    · rename_i j want hg
      split at h
      · rename_i t ht
        split at h
        · rename_i q hq
          have hw : wantA all s.env o = some (q == want) := by simp [wantA, hg, ht, hq]
          have hs : (⟨litE s.env t q, s.H, s.nx⟩ : St κ) = s := by rw [litE_same hq]
          have skip : opsRun ti Γ all os (i + 1) (⟨[], []⟩ :: tr) (skipO o s) K = some r → (q == want) = false →
              ∃ s' fs, lexR ti Γ all s.nx (o :: os) i (s.env, s.H) = some (s', fs) ∧ K ⟨s'.1, s'.2, s.nx⟩ (fs.reverse ++ tr) = some r := by
            intro h hqw
            exact fin (putE s.env o.dst (.tup []), s.H) ⟨[], []⟩ (by simp only [exO, hw, hqw]) h
          cases q <;> cases want <;> simp only [cond_true, cond_false] at h <;> rw [hs] at h
          · obtain ⟨s1, f, h1, h2⟩ := step _ h hw; exact fin s1 f h1 h2
          · exact skip h rfl
          · exact skip h rfl
          · obtain ⟨s1, f, h1, h2⟩ := step _ h hw; exact fin s1 f h1 h2
        · rename_i hq
          have hw : wantA all s.env o = some false := by simp [wantA, hg, ht, hq]
          exact fin (putE s.env o.dst (.tup []), s.H) ⟨[], []⟩ (by simp only [exO, hw]) h
        · cases h
      · cases h
end
end Go.Eng
