/- Part 1 (a part of the proof of UnstreamSteps; no condition). -/
import Derived.Below
import Derived.Laws.Append
import Derived.Laws.BytesArg
import Derived.Laws.BytesString
import Derived.Laws.StructEq
import Derived.Laws.Tables
import Derived.Lib.ConvBytes
import Derived.LoopN
import Derived.Orders
set_option linter.unusedSimpArgs false
set_option linter.unusedVariables false
namespace Go.AE
inductive T (α : Type) where
  | leaf
  | node (l : T α) (v : Option α) (r : T α)
def T.getF {α : Type} : Nat → Nat → T α → Option α
  | 0, _, _ => none
  | _ + 1, _, .leaf => none
  | f + 1, k, .node l v r => if k = 0 then v else if k % 2 = 1 then getF f (k / 2) l else getF f (k / 2 - 1) r
def T.get {α : Type} (t : T α) (k : Nat) : Option α := T.getF (k + 1) k t
def T.putF {α : Type} : Nat → Nat → Option α → T α → T α
  | 0, _, _, t => t
  | f + 1, k, x, .leaf => if k = 0 then .node .leaf x .leaf else if k % 2 = 1 then .node (putF f (k / 2) x .leaf) none .leaf else .node .leaf none (putF f (k / 2 - 1) x .leaf)
  | f + 1, k, x, .node l v r => if k = 0 then .node l x r else if k % 2 = 1 then .node (putF f (k / 2) x l) v r else .node l v (putF f (k / 2 - 1) x r)
def T.put {α : Type} (t : T α) (k : Nat) (x : Option α) : T α := T.putF (k + 1) k x t
def T.set {α : Type} (t : T α) (k : Nat) (x : α) : T α := t.put k (some x)
def T.del {α : Type} (t : T α) (k : Nat) : T α := t.put k none
theorem T.getF_leaf {α : Type} (f k : Nat) : T.getF f k (.leaf : T α) = none := by cases f <;> rfl
theorem T.getF_putF {α : Type} (x : Option α) : ∀ (f g k k' : Nat) (t : T α), k < f → k' < g → T.getF g k' (T.putF f k x t) = if k' = k then x else T.getF g k' t
  | 0, _, _, _, _, h, _ => by omega
  | _ + 1, 0, _, _, _, _, h => by omega
  | f + 1, g + 1, k, k', t, h, h' => by
    have key : ∀ (l : T α) (v : Option α) (r : T α), T.getF (g + 1) k' (if k = 0 then .node l x r else if k % 2 = 1 then .node (T.putF f (k / 2) x l) v r else .node l v (T.putF f (k / 2 - 1) x r)) =
        if k' = k then x else T.getF (g + 1) k' (.node l v r) := by
      intro l v r
      by_cases e : k = 0
      · subst e
        by_cases e' : k' = 0
        · subst e'; simp [T.getF]
        · simp [T.getF, e']
      · by_cases o : k % 2 = 1
        · by_cases e' : k' = 0
          · subst e'; simp only [if_neg e, if_pos o, T.getF, if_true]; rw [if_neg (by omega)]
          · by_cases o' : k' % 2 = 1
            · simp only [if_neg e, if_pos o, T.getF, if_neg e', if_pos o']
              rw [T.getF_putF x f g (k / 2) (k' / 2) l (by omega) (by omega)]
              by_cases q : k' = k
              · subst q; simp
              · rw [if_neg q, if_neg (by omega)]
            · simp only [if_neg e, if_pos o, T.getF, if_neg e', if_neg o']
              rw [if_neg (by intro q; subst q; exact o' o)]
        · by_cases e' : k' = 0
          · subst e'; simp only [if_neg e, if_neg o, T.getF, if_true]; rw [if_neg (by omega)]
          · by_cases o' : k' % 2 = 1
            · simp only [if_neg e, if_neg o, T.getF, if_neg e', if_pos o']
              rw [if_neg (by intro q; subst q; exact o o')]
            · simp only [if_neg e, if_neg o, T.getF, if_neg e', if_neg o']
              rw [T.getF_putF x f g (k / 2 - 1) (k' / 2 - 1) r (by omega) (by omega)]
              by_cases q : k' = k
              · subst q; simp
              · rw [if_neg q, if_neg (by omega)]
    cases t with
    | node l v r => exact key l v r
    | leaf =>
      have h1 := key .leaf none .leaf
      have e1 : T.getF (g + 1) k' (.node .leaf none .leaf : T α) = T.getF (g + 1) k' .leaf := by
        simp only [T.getF]; split
        · rfl
        · split <;> exact T.getF_leaf _ _
      rw [e1] at h1; exact h1
theorem T.get_put {α : Type} (t : T α) (k k' : Nat) (x : Option α) : (t.put k x).get k' = if k' = k then x else t.get k' :=
  T.getF_putF x _ _ k k' t (by omega) (by omega)
theorem T.get_set {α : Type} (t : T α) (k k' : Nat) (x : α) : (t.set k x).get k' = if k' = k then some x else t.get k' := T.get_put t k k' _
theorem T.get_del {α : Type} (t : T α) (k k' : Nat) : (t.del k).get k' = if k' = k then none else t.get k' := T.get_put t k k' _
structure Blk where
  cells : List Value
  elem : TypeId
  es : Nat
abbrev Heap := T Blk
structure St where
  heap : Heap
  ctr : Nat
abbrev Env := List Value
abbrev OvT := FuncId → Option (List Value → St → Option (Value × St))
def plainCell : Value → Bool
  | .bool _ | .int _ _ | .string _ | .pointer none | .slice none 0 0 | .nilFunc | .nilIface => true
  | .func (.func _) f c => f.isEmpty && c.isEmpty
  | _ => false
def plain : Value → Bool
  | .agg cs => cs.toList.all plainCell
  | v => plainCell v
def evalO (env : Env) : Operand → Option Value
  | .tmp t => some (env.getD t undef)
  | .const v => if plain v then some v else none
  | .func f => some (.func (.func f) #[] #[])
  | .global _ => none
def putA (env : Env) (dst : Option Tmp) (v : Value) : Env :=
  match dst with
  | some d => env.set d v
  | none => env
def yieldedA (ops : Array Oper) (env : Env) (j : Nat) : Option Bool :=
  match ((ops[j]?).bind (·.dst)).bind (env[·]?) with
  | some (.bool b) => some b
  | _ => none
def partA (P : Program) (t : TypeId) (cs : List Value) (off : Nat) : Option Value :=
  match P.underlying t, P.info? t with
  | some (.struct _), some i | some (.array _ _), some i => if off + i.size ≤ cs.length then some (.agg ((cs.drop off).take i.size).toArray) else none
  | some _, some _ => cs[off]?
  | _, _ => none
def evEqF (P : Program) (xs ys : List Value) : List Field → Option Bool
  | [] => some true
  | f :: fs => if f.name = "_" then none else match partA P f.type xs f.offset, partA P f.type ys f.offset with
    | some (.int k a), some (.int k' b) => match P.underlying f.type with
      | some (.int _) => if k = k' then (if a == b then evEqF P xs ys fs else some false) else none
      | _ => none
    | some (.bool a), some (.bool b) => match P.underlying f.type with
      | some .bool => if a == b then evEqF P xs ys fs else some false
      | _ => none
    | some (.string a), some (.string b) => match P.underlying f.type with
      | some .string => if a.toList == b.toList then evEqF P xs ys fs else some false
      | _ => none
    | _, _ => none
def evEq (P : Program) (t : TypeId) : Value → Value → Option Bool
  | .bool a, .bool b => match P.underlying t with | some .bool => some (a == b) | _ => none
  | .pointer none, .pointer b => match P.underlying t with | some (.pointer _) => some b.isNone | _ => none
  | .pointer (some _), .pointer none => match P.underlying t with | some (.pointer _) => some false | _ => none
  | .pointer (some a), .pointer (some b) => match P.underlying t with
    | some (.pointer e) => match P.info? e with
      | some i => if i.size ≠ 0 ∧ a.block = b.block then some (a.off == b.off) else none
      | none => none
    | _ => none
  | .slice none 0 0, .slice none 0 0 => match P.underlying t with | some (.slice _) => some true | _ => none
  | .slice none 0 0, .slice (some _) _ _ => match P.underlying t with | some (.slice _) => some false | _ => none
  | .slice (some _) _ _, .slice none 0 0 => match P.underlying t with | some (.slice _) => some false | _ => none
  | .nilFunc, .nilFunc => match P.underlying t with | some (.func _ _ _) => some true | _ => none
  | .nilFunc, .func _ _ _ => match P.underlying t with | some (.func _ _ _) => some false | _ => none
  | .func _ _ _, .nilFunc => match P.underlying t with | some (.func _ _ _) => some false | _ => none
  | .agg xs, .agg ys => match P.underlying t with
    | some (.struct fs) => if P.stoodInHeld t = false ∧ P.eqGuardType P.depth t = false then evEqF P xs.toList ys.toList fs.toList else none
    | _ => none
  | _, _ => none
def evBin (P : Program) (op : BinOp) (t : TypeId) (x y : Value) : Option Value :=
  match x, y with
  | .int k a, .int k' b =>
    match op with
    | .shl => if b < 0 then none else some (.int k (k.wrap (a * 2 ^ (min b.toNat k.bits))))
    | .shr => if b < 0 then none else some (.int k (a.fdiv (2 ^ (min b.toNat k.bits))))
    | .add => if k = k' then some (.int k (k.wrap (a + b))) else none
    | .sub => if k = k' then some (.int k (k.wrap (a - b))) else none
    | .mul => if k = k' then some (.int k (k.wrap (a * b))) else none
    | .quo => if k = k' ∧ b ≠ 0 then some (.int k (k.wrap (a.tdiv b))) else none
    | .rem => if k = k' ∧ b ≠ 0 then some (.int k (a.tmod b)) else none
    | .and => if k = k' then some (.int k (k.wrap (BitVec.ofInt k.bits a &&& BitVec.ofInt k.bits b).toNat)) else none
    | .or => if k = k' then some (.int k (k.wrap (BitVec.ofInt k.bits a ||| BitVec.ofInt k.bits b).toNat)) else none
    | .xor => if k = k' then some (.int k (k.wrap (BitVec.ofInt k.bits a ^^^ BitVec.ofInt k.bits b).toNat)) else none
    | .andNot => if k = k' then some (.int k (k.wrap (BitVec.ofInt k.bits a &&& ~~~(BitVec.ofInt k.bits b)).toNat)) else none
    | .eql => if k = k' then some (.bool (a == b)) else none
    | .neq => if k = k' then some (.bool (a != b)) else none
    | .lss => if k = k' then some (.bool (decide (a < b))) else none
    | .leq => if k = k' then some (.bool (decide (a ≤ b))) else none
    | .gtr => if k = k' then some (.bool (decide (a > b))) else none
    | .geq => if k = k' then some (.bool (decide (a ≥ b))) else none
  | .string a, .string b =>
    match op with
    | .add => if a.size + b.size ≤ 9223372036854775807 then some (.string (a ++ b)) else none
    | .eql => some (.bool (a.toList == b.toList))
    | .neq => some (.bool !(a.toList == b.toList))
    | .lss => some (.bool (Op.bytesLess a.toList b.toList))
    | .leq => some (.bool (Op.bytesLess a.toList b.toList || a.toList == b.toList))
    | .gtr => some (.bool !(Op.bytesLess a.toList b.toList || a.toList == b.toList))
    | .geq => some (.bool !(Op.bytesLess a.toList b.toList))
    | _ => none
  | x, y =>
    match op with
    | .eql => (evEq P t x y).map .bool
    | .neq => (evEq P t x y).map fun b => .bool !b
    | _ => none
def evUn (op : UnOp) (x : Value) : Option Value :=
  match op, x with
  | .neg, .int k n => some (.int k (k.wrap (0 - n)))
  | .xor, .int k n => some (.int k (k.wrap (BitVec.ofInt k.bits (if k.signed then -1 else k.max) ^^^ BitVec.ofInt k.bits n).toNat))
  | .not, .bool b => some (.bool !b)
  | _, _ => none
def bytesOf : List Value → Option (List UInt8)
  | [] => some []
  | .int .u8 n :: r => (bytesOf r).map (UInt8.ofNat n.toNat :: ·)
  | _ :: _ => none
def evConv (P : Program) (g : Nat → Option Blk) (nm : Nat) (src dst : TypeId) (x : Value) : Option (Value × Option Blk) :=
  match P.underlying src, P.underlying dst, x with
  | some _, some (.int k), .int _ n => some (.int k (k.wrap n), none)
  | some _, some .string, .string s => some (.string s, none)
  | some (.slice e), some .string, .slice none 0 0 => match P.underlying e with
    | some (.int .u8) => some (.string .empty, none)
    | _ => none
  | some (.slice e), some .string, .slice (some a) n _ => match P.underlying e with
    | some (.int .u8) =>
      if n = 0 then some (.string .empty, none) else
      match g a.block with
      | some blk => if a.spot.isNone ∧ a.off + n ≤ blk.cells.length ∧ blk.es = 1 then (bytesOf ((blk.cells.drop a.off).take n)).map fun bs => (.string ⟨bs.toArray⟩, none) else none
      | none => none
    | _ => none
  | some _, some (.slice e), .string s => match P.underlying e, P.info? e with
    | some (.int .u8), some i => if s.size ≤ 2147483648 ∧ i.size = 1 then some (.slice (some ⟨nm, 0, none⟩) s.size 1, some ⟨s.data.toList.map fun b => .int .u8 b.toNat, e, 1⟩) else none
    | _, _ => none
  | _, _, _ => none
def bound? (env : Env) (lo : Option Operand) (dflt : Nat) (top : Nat) : Option Nat :=
  match lo with
  | none => some dflt
  | some o => match evalO env o with
    | some (.int _ i) => if 0 ≤ i ∧ i ≤ (top : Int) then some i.toNat else none
    | _ => none
def evSlice (P : Program) (env : Env) (g : Nat → Option Blk) (t : TypeId) (x : Value) (lo hi mx : Option Operand) : Option Value :=
  match P.underlying t, x with
  | some .string, .string s => if mx.isSome then none else
    match bound? env hi s.size s.size with
    | some h => match bound? env lo 0 h with
      | some l => some (.string (s.extract l h))
      | none => none
    | none => none
  | some (.slice e), .slice a n c =>
    match P.info? e with
    | none => none
    | some i =>
      match mx with
      | none =>
        match bound? env hi n n with
        | none => none
        | some h => match bound? env lo 0 h with
          | none => none
          | some l => match a with
            | some a => if l = 0 ∨ (g a.block).map (·.es) = some i.size then some (.slice (some (a.add (l * i.size))) (h - l) c) else none
            | none => if n = 0 ∧ c = 0 then some (.slice none 0 0) else none
      | some _ =>
        match bound? env mx 0 n with
        | none => none
        | some m => match bound? env hi 0 m with
          | none => none
          | some h => match bound? env lo 0 h with
            | none => none
            | some l => if hi.isNone then none else match a with
              | some a => if l = 0 ∨ (g a.block).map (·.es) = some i.size then some (.slice (some (a.add (l * i.size))) (h - l) (if m = l then 0 else 1)) else none
              | none => if n = 0 ∧ c = 0 then some (.slice none 0 0) else none
  | _, _ => none
def evIndex (P : Program) (t : TypeId) (x ix : Value) : Option Value :=
  match P.underlying t, x, ix with
  | some (.array len e), .agg cs, .int _ i =>
    match P.info? e with
    | some ie => if 0 ≤ i ∧ i < len then partA P e cs.toList (i.toNat * ie.size) else none
    | none => none
  | some .string, .string s, .int _ i => if 0 ≤ i then (s[i.toNat]?).map fun b => .int .u8 b.toNat else none
  | _, _, _ => none
def evIndexAddr (P : Program) (t : TypeId) (x ix : Value) : Option Value :=
  match P.underlying t, x, ix with
  | some (.array len e), .pointer (some a), .int _ i =>
    match P.info? e with
    | some ie => if 0 ≤ i ∧ i < len then some (.pointer (some (a.add (i.toNat * ie.size)))) else none
    | none => none
  | some (.slice e), .slice (some a) n _, .int _ i =>
    match P.info? e with
    | some ie => if 0 ≤ i ∧ i < n ∧ a.spot.isNone then some (.pointer (some (a.add (i.toNat * ie.size)))) else none
    | none => none
  | _, _, _ => none
def zerosOf (z : List Value) : Nat → List Value
  | 0 => []
  | n + 1 => z ++ zerosOf z n
def minMax (mx : Bool) : Value → List Value → Option Value
  | v, [] => some v
  | .int k x, .int _ y :: r => minMax mx (.int k (if mx then (if y > x then y else x) else (if y < x then y else x))) r
  | _, _ => none
def evLocal (P : Program) (env : Env) (g : Nat → Option Blk) (nm : Nat) (op : Op) : Option (Value × Option Blk) :=
  match op with
  | .move x | .assign x => (evalO env x).map fun v => (v, none)
  | .pick c a b => match evalO env c, evalO env a, evalO env b with
    | some (.bool t), some va, some vb => some (if t then va else vb, none)
    | _, _, _ => none
  | .alloc e => match P.info? e with
    | some i => match i.zero with
      | some z => if plain z then some (.pointer (some ⟨nm, 0, none⟩), some ⟨z.cells.toList, e, 0⟩) else none
      | none => none
    | none => none
  | .box e x => (evalO env x).map fun v => (.pointer (some ⟨nm, 0, none⟩), some ⟨v.cells.toList, e, 0⟩)
  | .build t parts => match parts.toList.mapM (fun p => (evalO env p.2).map fun v => (p.1, v)) with
    | some ps => match P.info? t with
      | some i => match i.zero with
        | some z => if plain z then (P.built t ps).map fun cs => (.agg cs, none) else none
        | none => none
      | none => none
    | none => none
  | .buildSlice t len parts => match P.underlying t, parts.toList.mapM (fun p => (evalO env p.2).map fun v => (p.1, v)) with
    | some (.slice e), some ps => match P.info? e with
      | some i => match i.zero with
        | some z =>
          if plain z ∧ len * i.size ≤ 16777216 ∧ z.cells.size = i.size ∧ i.size ≠ 0 then
            (Instr.fill (fun j => some (j * i.size, i.size)) (zerosOf z.cells.toList len).toArray ps).map fun cs => (.slice (some ⟨nm, 0, none⟩) len 1, some ⟨cs.toList, e, i.size⟩)
          else none
        | none => none
      | none => none
    | _, _ => none
  | .load t a => match evalO env a with
    | some (.pointer (some a)) => match g a.block with
      | some blk => if a.spot.isNone then (partA P t blk.cells a.off).map fun v => (v, none) else none
      | none => none
    | _ => none
  | .nilCheck x => match evalO env x with
    | some (.pointer (some a)) => some (.pointer (some a), none)
    | some (.func (.func f) x y) => some (.func (.func f) x y, none)
    | _ => none
  | .binOp op t x y _ => match evalO env x, evalO env y with
    | some vx, some vy => (evBin P op t vx vy).map fun v => (v, none)
    | _, _ => none
  | .unOp op _ x => match evalO env x with
    | some vx => (evUn op vx).map fun v => (v, none)
    | none => none
  | .convert src dst x => match evalO env x with
    | some vx => evConv P g nm src dst vx
    | none => none
  | .makeInterface t x => match P.underlying t, evalO env x with
    | some (.interface _), _ => none
    | some _, some v => some (.iface t v, none)
    | _, _ => none
  | .makeFunc fn first captured => match first.toList.mapM (evalO env), captured.toList.mapM (evalO env) with
    | some f, some c => some (.func fn f.toArray c.toArray, none)
    | _, _ => none
  | .makeSlice t l c => match P.underlying t, evalO env l, evalO env c with
    | some (.slice e), some (.int _ l), some (.int _ c) => match P.info? e with
      | some i => match i.zero with
        | some z => if plain z ∧ 0 ≤ l ∧ l ≤ c ∧ c * i.bytes ≤ 281474976710656 ∧ c ≤ 9223372036854775807 ∧ z.cells.size = i.size ∧ i.size ≠ 0 then
            some (.slice (some ⟨nm, 0, none⟩) l.toNat 1, some ⟨zerosOf z.cells.toList l.toNat, e, i.size⟩) else none
        | none => none
      | none => none
    | _, _, _ => none
  | .slice t x lo hi mx => match evalO env x with
    | some v => (evSlice P env g t v lo hi mx).map fun v => (v, none)
    | none => none
  | .fieldAddr s x f => match P.underlying s, evalO env x with
    | some (.struct fields), some (.pointer (some a)) => match fields[f]? with
      | some fl => match P.info? fl.type with
        | some i => if i.size ≠ 0 ∧ a.spot.isNone then some (.pointer (some (a.add fl.offset)), none) else none
        | none => none
      | none => none
    | _, _ => none
  | .field t x f => match P.underlying t, evalO env x with
    | some (.struct fields), some (.agg cs) => match fields[f]? with
      | some fl => (partA P fl.type cs.toList fl.offset).map fun v => (v, none)
      | none => none
    | _, _ => none
  | .indexAddr t x ix => match evalO env x, evalO env ix with
    | some x, some ix => (evIndexAddr P t x ix).map fun v => (v, none)
    | _, _ => none
  | .index t x ix => match evalO env x, evalO env ix with
    | some x, some ix => (evIndex P t x ix).map fun v => (v, none)
    | _, _ => none
  | .extract x i => match evalO env x with
    | some (.tuple vs) => (vs[i]?).map fun v => (v, none)
    | _ => none
  | .call c => match c.callee with
    | .builtin .len => match (c.argTypes[0]?).bind P.underlying, (c.args[0]?).bind (evalO env) with
      | some .string, some (.string s) => some (.int .i64 s.size, none)
      | some (.slice _), some (.slice _ n _) => some (.int .i64 n, none)
      | some (.array n _), some _ => some (.int .i64 n, none)
      | _, _ => none
    | .builtin .max => match c.args.toList.mapM (evalO env) with
      | some (.int k n :: r) => (minMax true (.int k n) r).map fun v => (v, none)
      | _ => none
    | .builtin .min => match c.args.toList.mapM (evalO env) with
      | some (.int k n :: r) => (minMax false (.int k n) r).map fun v => (v, none)
      | _ => none
    | _ => none
  | _ => none
def wild : Op → Bool
  | .store .. => true
  | .call c => match c.callee with
    | .builtin .len | .builtin .max | .builtin .min => false
    | _ => true
  | _ => false
def allocs : Op → Bool
  | .alloc _ | .box .. | .buildSlice .. | .makeSlice .. | .convert .. => true
  | _ => false
def reads : Op → Bool
  | .load .. | .convert .. | .slice .. => true
  | _ => false
abbrev CallF := FuncId → List Value → St → Option (Value × St)
def setCells (cs : List Value) (off : Nat) : List Value → List Value
  | [] => cs
  | v :: r => setCells (cs.set off v) (off + 1) r
def oneCell : Value → Bool
  | .agg _ | .tuple _ => false
  | _ => true
def srcCells (P : Program) (t : Option TypeId) (h : Heap) (x : Value) (size : Nat) : Option (Nat × List Value) :=
  match x with
  | .slice none 0 0 => match t.bind P.underlying with
    | some (.slice _) => some (0, [])
    | _ => none
  | .slice (some a) n _ => match t.bind P.underlying with
    | some (.slice _) => match h.get a.block with
      | some blk => if a.spot.isNone ∧ a.off + n * size ≤ blk.cells.length ∧ blk.es = size ∧ ((blk.cells.drop a.off).take (n * size)).all oneCell then some (n, (blk.cells.drop a.off).take (n * size)) else none
      | none => if n = 0 then some (0, []) else none
    | _ => none
  | .string s => match t.bind P.underlying with
    | some .string => if size = 1 then some (s.size, s.data.toList.map fun b => .int .u8 b.toNat) else none
    | _ => none
  | _ => none
def evAppend (P : Program) (nm : Nat) (s : St) (tx ty : Option TypeId) (x y : Value) : Option (Value × St) :=
  match tx.bind P.underlying with
  | some (.slice e) => match P.info? e with
    | some i => match i.zero with
      | some z => match srcCells P ty s.heap y i.size with
        | some (m, new) =>
          if plain z ∧ i.size ≠ 0 ∧ z.cells.size = i.size then
            match x with
            | .slice none 0 0 =>
              if m * i.bytes ≤ 140737488355328 ∧ m ≤ 4611686018427387904 then
                if m = 0 then some (.slice none 0 0, s) else some (.slice (some ⟨nm, 0, none⟩) m 1, { s with heap := s.heap.set nm ⟨new, e, i.size⟩ })
              else none
            | .slice (some a) n c =>
              if c = 0 then
                if n = 0 ∧ m * i.bytes ≤ 140737488355328 ∧ m ≤ 4611686018427387904 then
                  if m = 0 then some (.slice (some a) 0 0, s) else some (.slice (some ⟨nm, 0, none⟩) m 1, { s with heap := s.heap.set nm ⟨new, e, i.size⟩ })
                else none
              else match s.heap.get a.block with
                | some blk =>
                  if a.spot.isNone ∧ blk.es = i.size ∧ blk.elem = e ∧ a.off + n * i.size = blk.cells.length ∧ (n + m) * i.bytes ≤ 140737488355328 ∧ n + m ≤ 4611686018427387904 then
                    some (.slice (some ⟨nm, 0, none⟩) (n + m) 1, { s with heap := (s.heap.del a.block).set nm ⟨blk.cells.drop a.off ++ new, e, i.size⟩ })
                  else none
                | none => none
            | _ => none
          else none
        | none => none
      | none => none
    | none => none
  | _ => none
def evCopy (P : Program) (s : St) (tx ty : Option TypeId) (x y : Value) : Option (Value × St) :=
  match tx.bind P.underlying with
  | some (.slice e) => match P.info? e with
    | some i => match srcCells P ty s.heap y i.size with
      | some (m, new) => match x with
        | .slice none 0 0 => some (.int .i64 0, s)
        | .slice (some a) n _ => match s.heap.get a.block with
          | some blk => if a.spot.isNone ∧ blk.es = i.size ∧ a.off + n * i.size ≤ blk.cells.length then
              some (.int .i64 (min m n : Nat), { s with heap := s.heap.set a.block { blk with cells := setCells blk.cells a.off (new.take (min m n * i.size)) } })
            else none
          | none => none
        | _ => none
      | none => none
    | none => none
  | _ => none
def evWild (P : Program) (call : CallF) (env : Env) (s : St) (nm : Nat) (op : Op) : Option (Value × St) :=
  match op with
  | .store t a x => match evalO env a, evalO env x with
    | some (.pointer (some a)), some v => match s.heap.get a.block, P.info? t with
      | some blk, some i => if a.spot.isNone ∧ v.cells.size = i.size ∧ a.off + i.size ≤ blk.cells.length ∧ v.cells.toList.all oneCell then
          some (undef, { s with heap := s.heap.set a.block { blk with cells := setCells blk.cells a.off v.cells.toList } }) else none
      | _, _ => none
    | _, _ => none
  | .call c => match c.args.toList.mapM (evalO env) with
    | some args => match c.callee with
      | .value f => match evalO env f with
        | some (.func (.func f) first captured) => call f (first.toList ++ args ++ captured.toList) s
        | _ => none
      | .builtin .append => match args with
        | [x, y] => evAppend P nm s c.argTypes[0]? c.argTypes[1]? x y
        | _ => none
      | .builtin .copy => match args with
        | [x, y] => evCopy P s c.argTypes[0]? c.argTypes[1]? x y
        | _ => none
      | _ => none
    | none => none
  | _ => none
structure RS where
  env : Env
  st : St
  snaps : List (Nat × Heap)
  made : Heap
def evStep (P : Program) (call : CallF) (ops : Array Oper) (c0 i : Nat) (o : Oper) (r : RS) : Option RS :=
  if Region.wanted o (yieldedA ops r.env) then
    if wild o.op then
      match evWild P call r.env r.st (c0 + i) o.op with
      | some (v, s) => some { r with env := putA r.env o.dst v, st := s, snaps := (i + 1, s.heap) :: r.snaps }
      | none => none
    else
      match evLocal P r.env r.st.heap.get (c0 + i) o.op with
      | some (v, none) => some { r with env := putA r.env o.dst v }
      | some (v, some b) => some { r with env := putA r.env o.dst v, st := { r.st with heap := r.st.heap.set (c0 + i) b }, made := r.made.set (c0 + i) b }
      | none => none
  else some { r with env := putA r.env o.dst undef, snaps := if wild o.op then (i + 1, r.st.heap) :: r.snaps else r.snaps }
def evOps (P : Program) (call : CallF) (ops : Array Oper) (c0 : Nat) : List Oper → Nat → RS → Option RS
  | [], _, r => some r
  | o :: rest, i, r => match evStep P call ops c0 i o r with
    | some r => evOps P call ops c0 rest (i + 1) r
    | none => none
def maskOf (acc : List Nat) (o : Oper) : Nat :=
  o.after.toList.foldl (fun s e => if Region.binds .any e then s ||| 2 ^ e.on ||| acc.getD e.on 0 else s) 0
def masks : List Oper → List Nat → List Nat
  | [], acc => acc
  | o :: r, acc => masks r (acc ++ [maskOf acc o])
def anc (m : List Nat) (i j : Nat) : Bool := (m.getD j 0).testBit i
def looks (ops : Array Oper) (o : Oper) : List Tmp :=
  (o.op.operands.toList.filterMap fun | .tmp t => some t | _ => none) ++ (match o.guard with
    | some (g, _) => ((ops[g]?).bind (·.dst)).toList
    | none => [])
def pairOk (ops : Array Oper) (m : List Nat) (i j : Nat) (a b : Oper) : Bool :=
  (match a.dst with | some d => b.dst != some d && (!(looks ops b).contains d || anc m i j) | none => true) &&
  (match b.dst with | some d => !(looks ops a).contains d || (anc m i j && !reads a.op) | none => true) &&
  (!(wild a.op && wild b.op) || anc m i j) && (!(allocs a.op && wild b.op) || anc m i j)
def edgesOk (i : Nat) (o : Oper) : Bool := o.after.toList.all fun e => !Region.binds .any e || decide (e.on < i)
def drawOk (ops : Array Oper) : Bool :=
  let m := masks ops.toList []
  let l := ops.toList.zipIdx
  l.all (fun p => edgesOk p.2 p.1 && (match p.1.dst with | some d => !(looks ops p.1).contains d | none => true) && (match p.1.op with | .select .. => false | _ => true)) &&
  l.all (fun p => l.all fun q => !decide (p.2 < q.2) || pairOk ops m p.2 q.2 p.1 q.1)
def wilds (ops : Array Oper) : List Nat := (ops.toList.zipIdx.filter fun p => wild p.1.op).map (·.2)
def canonP (ws : List Nat) (i p : Nat) : Bool := decide (p ≤ i) && ws.all fun w => !(decide (p ≤ w) && decide (w < i))
def allowed (m ws : List Nat) (i p : Nat) : Bool := ws.all fun w => if w < p then !anc m i w else !anc m w i
def pairs (ops : Array Oper) : List (Nat × Nat) :=
  let m := masks ops.toList []
  let ws := wilds ops
  ops.toList.zipIdx.flatMap fun q => if reads q.1.op then ((0 :: ws.map (· + 1)).filter fun p => !canonP ws q.2 p && allowed m ws q.2 p).map fun p => (q.2, p) else []
def heapAt (c0 n : Nat) (r : RS) (p : Nat) : Nat → Option Blk :=
  match r.snaps.find? (fun q => q.1 == p) with
  | some (_, h) => fun x => if c0 + p ≤ x ∧ x < c0 + n then r.made.get x else h.get x
  | none => fun _ => none
def sameValue : Value → Value → Bool
  | .bool a, .bool b => a == b
  | .int k a, .int k' b => decide (k = k') && a == b
  | .string a, .string b => a.data.toList == b.data.toList
  | .pointer a, .pointer b => decide (a = b)
  | .slice a n c, .slice a' n' c' => decide (a = a') && n == n' && c == c'
  | .nilFunc, .nilFunc => true
  | .nilIface, .nilIface => true
  | _, _ => false
def sameCells : List Value → List Value → Bool
  | [], [] => true
  | x :: xs, y :: ys => sameValue x y && sameCells xs ys
  | _, _ => false
def sameV : Value → Value → Bool
  | .agg a, .agg b => sameCells a.toList b.toList
  | x, y => sameValue x y
def pairB (P : Program) (ops : Array Oper) (c0 : Nat) (r : RS) (p : Nat × Nat) : Bool :=
  match ops[p.1]? with
  | some o => if Region.wanted o (yieldedA ops r.env) then
      match evLocal P r.env (heapAt c0 ops.size r p.2) (c0 + p.1) o.op with
      | some (v, _) => match o.dst with
        | some d => match r.env[d]? with
          | some u => sameV u v
          | none => true
        | none => true
      | none => false
    else true
  | none => true
def evRegion (P : Program) (call : CallF) (ops : Array Oper) (draw : Bool) (env : Env) (s : St) : Option (Env × St) :=
  match evOps P call ops s.ctr ops.toList 0 ⟨env, { s with ctr := s.ctr + ops.size }, [(0, s.heap)], .leaf⟩ with
  | some r => if draw then (if drawOk ops && (pairs ops).all (pairB P ops s.ctr r) then some (r.env, r.st) else none) else some (r.env, r.st)
  | none => none
inductive AExit where
  | normal
  | exit (id : Nat)
  | ret
def loopN (f : Env → St → Option (AExit × Env × St)) : Nat → Env → St → Option (AExit × Env × St)
  | 0, _, _ => none
  | n + 1, env, s => match f env s with
    | some (.normal, env, s) => loopN f n env s
    | r => r
def evCode (P : Program) (call : CallF) (n : Nat) : Code → Env → St → Option (AExit × Env × St)
  | .skip, env, s => some (.normal, env, s)
  | .label _, env, s => some (.normal, env, s)
  | .region _ ops draw, env, s => match evRegion P call ops draw env s with
    | some (env, s) => some (.normal, env, s)
    | none => none
  | .seq a b, env, s => match evCode P call n a env s with
    | some (.normal, env, s) => evCode P call n b env s
    | r => r
  | .cond c a b, env, s => match evalO env c with
    | some (.bool t) => if t then evCode P call n a env s else evCode P call n b env s
    | _ => none
  | .block id a, env, s => match evCode P call n a env s with
    | some (.exit j, env, s) => if j = id then some (.normal, env, s) else some (.exit j, env, s)
    | r => r
  | .loop a, env, s => loopN (evCode P call n a) n env s
  | .exit id, env, s => some (.exit id, env, s)
  | .ret, env, s => some (.ret, env, s)
  | _, _, _ => none
def evResult (P : Program) (env : Env) (s : St) : ResultVar → Option Value
  | .tmp t => some (env.getD t undef)
  | .cell a t => match env.getD a undef with
    | .pointer (some a) => match s.heap.get a.block with
      | some blk => if a.spot.isNone then partA P t blk.cells a.off else none
      | none => none
    | _ => none
def single : List Value → Value
  | [v] => v
  | vs => .tuple vs.toArray
def evCall (P : Program) (ov : OvT) : Nat → CallF
  | 0, _, _, _ => none
  | n + 1, f, args, s => match P.funcs[f]? with
    | some fn => match fn.body with
      | some c => match ov f with
        | some g => g args s
        | none => match evCode P (evCall P ov n) n c (args ++ List.replicate (fn.ntmps - args.length) undef) s with
          | some (.exit _, _, _) => none
          | some (_, env, s) => (fn.results.toList.mapM (evResult P env s)).map fun vs => (single vs, s)
          | none => none
      | none => none
    | none => none
open Go.RowKit
structure RB where
  B : Nat
  δ : Nat
  N : Nat
  es : Nat
abbrev Ren := Nat → Option RB
def Ren.le (ρ ρ' : Ren) : Prop := ∀ b r, ρ b = some r → ρ' b = some r
theorem Ren.le_refl (ρ : Ren) : ρ.le ρ := fun _ _ h => h
theorem Ren.le_trans {a b c : Ren} (h : a.le b) (k : b.le c) : a.le c := fun x r hx => k x r (h x r hx)
def Ren.upd (ρ : Ren) (nm : Nat) (r : RB) : Ren := fun b => if b = nm then some r else ρ b
theorem Ren.upd_same (ρ : Ren) (nm : Nat) (r : RB) : ρ.upd nm r nm = some r := by simp [Ren.upd]
theorem Ren.upd_other (ρ : Ren) {nm b : Nat} (r : RB) (h : b ≠ nm) : ρ.upd nm r b = ρ b := by simp [Ren.upd, h]
theorem Ren.le_upd {ρ : Ren} {nm : Nat} (r : RB) (h : ρ nm = none) : ρ.le (ρ.upd nm r) := by
  intro b x hb
  rw [Ren.upd_other _ _ (by intro e; subst e; rw [h] at hb; cases hb)]; exact hb
def AR (ρ : Ren) (a A : Addr) : Prop := ∃ r, ρ a.block = some r ∧ A = ⟨r.B, r.δ + a.off, none⟩ ∧ a.spot = none
def SR (ρ : Ren) (a A : Addr) (C : Nat) : Prop := ∃ r, ρ a.block = some r ∧ A = ⟨r.B, r.δ + a.off, none⟩ ∧ a.spot = none ∧ r.δ + a.off + C * r.es ≤ r.N
theorem AR.mono {ρ ρ' : Ren} {a A : Addr} (h : ρ.le ρ') (k : AR ρ a A) : AR ρ' a A := by
  obtain ⟨r, h1, h2⟩ := k; exact ⟨r, h _ _ h1, h2⟩
theorem SR.mono {ρ ρ' : Ren} {a A : Addr} {C : Nat} (h : ρ.le ρ') (k : SR ρ a A C) : SR ρ' a A C := by
  obtain ⟨r, h1, h2⟩ := k; exact ⟨r, h _ _ h1, h2⟩
inductive VR (ρ : Ren) : Value → Value → Prop where
  | bool (b : Bool) : VR ρ (.bool b) (.bool b)
  | int (k : IntKind) (n : Int) : VR ρ (.int k n) (.int k n)
  | str (s : ByteArray) : VR ρ (.string s) (.string s)
  | pnil : VR ρ (.pointer none) (.pointer none)
  | ptr {a A : Addr} (h : AR ρ a A) : VR ρ (.pointer (some a)) (.pointer (some A))
  | snil : VR ρ (.slice none 0 0) (.slice none 0 0)
  | slice {a A : Addr} {n c C : Nat} (h1 : n ≤ C) (h2 : c = 0 → C = 0) (h3 : C ≠ 0 → SR ρ a A C) : VR ρ (.slice (some a) n c) (.slice (some A) n C)
  | func (fn : Fn) {f f' c c' : Array Value} (hf : f.size = f'.size) (hc : c.size = c'.size) (h1 : ∀ i, VR ρ (f.getD i undef) (f'.getD i undef))
      (h2 : ∀ i, VR ρ (c.getD i undef) (c'.getD i undef)) : VR ρ (.func fn f c) (.func fn f' c')
  | nilFunc : VR ρ .nilFunc .nilFunc
  | iface (t : TypeId) {v v' : Value} (h : VR ρ v v') : VR ρ (.iface t v) (.iface t v')
  | nilIface : VR ρ .nilIface .nilIface
  | agg {cs ds : Array Value} (hs : cs.size = ds.size) (h : ∀ i, VR ρ (cs.getD i undef) (ds.getD i undef)) : VR ρ (.agg cs) (.agg ds)
  | unit : VR ρ undef undef
  | tuple {cs ds : Array Value} (hs : cs.size = ds.size) (h : ∀ i, VR ρ (cs.getD i undef) (ds.getD i undef)) : VR ρ (.tuple cs) (.tuple ds)
theorem VR.mono {ρ ρ' : Ren} (h : ρ.le ρ') {v v' : Value} (k : VR ρ v v') : VR ρ' v v' := by
  induction k with
  | bool b => exact .bool b
  | int k n => exact .int k n
  | str s => exact .str s
  | pnil => exact .pnil
  | ptr q => exact .ptr (q.mono h)
  | snil => exact .snil
  | slice h1 h2 h3 => exact .slice h1 h2 (fun e => (h3 e).mono h)
  | func fn hf hc _ _ i1 i2 => exact .func fn hf hc i1 i2
  | nilFunc => exact .nilFunc
  | iface t _ ih => exact .iface t ih
  | nilIface => exact .nilIface
  | agg hs _ ih => exact .agg hs ih
  | unit => exact .unit
  | tuple hs _ ih => exact .tuple hs ih
theorem VR.plainCell {ρ : Ren} {v : Value} (h : plainCell v = true) : VR ρ v v := by
  unfold AE.plainCell at h
  split at h
  · exact .bool _
  · exact .int _ _
  · exact .str _
  · exact .pnil
  · exact .snil
  · exact .nilFunc
  · exact .nilIface
  · rename_i f x c
    simp only [Bool.and_eq_true, Array.isEmpty_iff] at h
    obtain ⟨h1, h2⟩ := h
    subst h1 h2
    exact .func _ rfl rfl (fun i => by simpa using VR.unit) (fun i => by simpa using VR.unit)
  · cases h
theorem getD_list {α : Type} (a : Array α) (i : Nat) (d : α) : a.getD i d = a.toList.getD i d := by
  simp [Array.getD_eq_getD_getElem?, List.getD]
theorem VR.plain {ρ : Ren} {v : Value} (h : plain v = true) : VR ρ v v := by
  unfold AE.plain at h
  split at h
  · rename_i cs
    refine .agg rfl fun i => ?_
    rw [getD_list]
    by_cases hi : i < cs.toList.length
    · have := List.all_eq_true.1 h (cs.toList[i]) (List.getElem_mem hi)
      simp only [List.getD, List.getElem?_eq_getElem hi, Option.getD_some]
      exact VR.plainCell this
    · simp only [List.getD, List.getElem?_eq_none (Nat.le_of_not_lt hi), Option.getD_none]; exact .unit
  · exact VR.plainCell h
def LR (ρ : Ren) (xs ys : List Value) : Prop := xs.length = ys.length ∧ ∀ i, VR ρ (xs.getD i undef) (ys.getD i undef)
theorem LR.mono {ρ ρ' : Ren} (h : ρ.le ρ') {xs ys : List Value} (k : LR ρ xs ys) : LR ρ' xs ys := ⟨k.1, fun i => (k.2 i).mono h⟩
theorem LR.nil {ρ : Ren} : LR ρ [] [] := ⟨rfl, fun _ => by simpa using VR.unit⟩
theorem LR.cons {ρ : Ren} {x y : Value} {xs ys : List Value} (h : VR ρ x y) (k : LR ρ xs ys) : LR ρ (x :: xs) (y :: ys) :=
  ⟨by simp [k.1], fun i => by cases i with
    | zero => simpa using h
    | succ i => simpa using k.2 i⟩
theorem LR.cons_inv {ρ : Ren} {x : Value} {xs zs : List Value} (h : LR ρ (x :: xs) zs) : ∃ y ys, zs = y :: ys ∧ VR ρ x y ∧ LR ρ xs ys := by
  cases zs with
  | nil => have := h.1; simp at this
  | cons y ys => exact ⟨y, ys, rfl, by simpa using h.2 0, by have := h.1; simpa using this, fun i => by simpa using h.2 (i + 1)⟩
theorem LR.nil_inv {ρ : Ren} {zs : List Value} (h : LR ρ [] zs) : zs = [] := by
  have := h.1; cases zs with
  | nil => rfl
  | cons _ _ => simp at this
theorem LR.append {ρ : Ren} {xs ys xs' ys' : List Value} (h : LR ρ xs ys) (k : LR ρ xs' ys') : LR ρ (xs ++ xs') (ys ++ ys') := by
  refine ⟨by simp [h.1, k.1], fun i => ?_⟩
  by_cases hi : i < xs.length
  · have := h.2 i
    simp only [List.getD, List.getElem?_append, if_pos hi, if_pos (h.1 ▸ hi : i < ys.length)] at this ⊢; exact this
  · have := k.2 (i - xs.length)
    simp only [List.getD, List.getElem?_append, if_neg hi, if_neg (h.1 ▸ hi : ¬ i < ys.length), ← h.1] at this ⊢; exact this
theorem LR.get? {ρ : Ren} {xs ys : List Value} (h : LR ρ xs ys) {i : Nat} {x : Value} (hx : xs[i]? = some x) : ∃ y, ys[i]? = some y ∧ VR ρ x y := by
  have hi : i < xs.length := by
    rcases Nat.lt_or_ge i xs.length with q | q
    · exact q
    · rw [List.getElem?_eq_none q] at hx; cases hx
  have hj : i < ys.length := by rw [← h.1]; exact hi
  refine ⟨ys[i], List.getElem?_eq_getElem hj, ?_⟩
  have := h.2 i
  simp only [List.getD, hx, List.getElem?_eq_getElem hj, Option.getD_some] at this
  exact this
theorem LR.replicate {ρ : Ren} (n : Nat) : LR ρ (List.replicate n undef) (List.replicate n undef) :=
  ⟨rfl, fun i => by
    have : (List.replicate n undef).getD i undef = undef := by
      simp only [List.getD, List.getElem?_replicate]; split <;> rfl
    rw [this]; exact .unit⟩
theorem LR.set {ρ : Ren} {xs ys : List Value} (h : LR ρ xs ys) (i : Nat) {x y : Value} (hv : VR ρ x y) : LR ρ (xs.set i x) (ys.set i y) := by
  refine ⟨by simp [h.1], fun j => ?_⟩
  simp only [List.getD, List.getElem?_set]
  by_cases e : i = j
  · subst e
    simp only [if_true]
    by_cases hi : i < xs.length
    · simp [hi, h.1 ▸ hi, hv]
    · simp [hi, h.1 ▸ hi, VR.unit]
  · simp only [e, if_false]; exact h.2 j
theorem LR.plain {ρ : Ren} {xs : List Value} (h : xs.all AE.plainCell = true) : LR ρ xs xs := by
  refine ⟨rfl, fun i => ?_⟩
  by_cases hi : i < xs.length
  · have := List.all_eq_true.1 h (xs[i]) (List.getElem_mem hi)
    simp only [List.getD, List.getElem?_eq_getElem hi, Option.getD_some]; exact VR.plainCell this
  · simp only [List.getD, List.getElem?_eq_none (Nat.le_of_not_lt hi), Option.getD_none]; exact .unit
theorem LR.of_agg {ρ : Ren} {cs ds : Array Value} (hs : cs.size = ds.size) (h : ∀ i, VR ρ (cs.getD i undef) (ds.getD i undef)) : LR ρ cs.toList ds.toList :=
  ⟨by simpa using hs, fun i => by rw [← getD_list, ← getD_list]; exact h i⟩
theorem LR.agg {ρ : Ren} {xs ys : List Value} (h : LR ρ xs ys) : VR ρ (.agg xs.toArray) (.agg ys.toArray) :=
  .agg (by simpa using h.1) fun i => by rw [getD_list, getD_list]; exact h.2 i
theorem LR.tuple {ρ : Ren} {xs ys : List Value} (h : LR ρ xs ys) : VR ρ (.tuple xs.toArray) (.tuple ys.toArray) :=
  .tuple (by simpa using h.1) fun i => by rw [getD_list, getD_list]; exact h.2 i
theorem LR.drop {ρ : Ren} {xs ys : List Value} (h : LR ρ xs ys) (n : Nat) : LR ρ (xs.drop n) (ys.drop n) :=
  ⟨by simp [h.1], fun i => by simpa [List.getD, List.getElem?_drop] using h.2 (n + i)⟩
theorem LR.take {ρ : Ren} {xs ys : List Value} (h : LR ρ xs ys) (n : Nat) : LR ρ (xs.take n) (ys.take n) :=
  ⟨by simp [h.1], fun i => by
    simp only [List.getD, List.getElem?_take]
    split
    · exact h.2 i
    · exact .unit⟩
theorem VR.cells {ρ : Ren} {v v' : Value} (h : VR ρ v v') : LR ρ v.cells.toList v'.cells.toList := by
  have one : ∀ {x y : Value}, VR ρ x y → LR ρ [x] [y] := fun q => LR.cons q LR.nil
  cases h with
  | agg hs q => exact LR.of_agg hs q
  | bool b => exact one (.bool b)
  | int k n => exact one (.int k n)
  | str s => exact one (.str s)
  | pnil => exact one .pnil
  | ptr q => exact one (.ptr q)
  | snil => exact one .snil
  | slice h1 h2 h3 => exact one (.slice h1 h2 h3)
  | func fn hf hc h1 h2 => exact one (.func fn hf hc h1 h2)
  | nilFunc => exact one .nilFunc
  | iface t q => exact one (.iface t q)
  | nilIface => exact one .nilIface
  | unit => exact one .unit
  | tuple hs q => exact one (.tuple hs q)
theorem VR.oneCell {ρ : Ren} {v v' : Value} (h : VR ρ v v') (k : AE.oneCell v = true) : v'.oneCell' = true := by
  cases h <;> first | rfl | (simp [AE.oneCell, undef] at k)
def BR (ρ : Ren) (w : World) (r : RB) (blk : Blk) : Prop :=
  (r.es = blk.es ∧ (blk.es = 0 → r.δ = 0 ∧ r.N = blk.cells.length)) ∧ ∃ cs fz, w.heap[r.B]? = some (.cells cs blk.elem fz) ∧ cs.size = r.N ∧ (fz.2 ≤ fz.1 ∨ r.N ≤ fz.1) ∧ r.δ + blk.cells.length ≤ r.N ∧
    ∀ i, i < blk.cells.length → VR ρ (blk.cells.getD i undef) (cs.getD (r.δ + i) undef)
structure R (ρ : Ren) (g : Nat → Option Blk) (w : World) : Prop where
  live : ∀ b blk, g b = some blk → ∃ r, ρ b = some r ∧ BR ρ w r blk
  inj : ∀ b₁ b₂ x₁ x₂ r₁ r₂, g b₁ = some x₁ → g b₂ = some x₂ → ρ b₁ = some r₁ → ρ b₂ = some r₂ → r₁.B = r₂.B → b₁ = b₂
  lt : ∀ b r, ρ b = some r → r.B < w.heap.size
theorem BR.mono {ρ ρ' : Ren} (h : ρ.le ρ') {w w' : World} {r : RB} {blk : Blk} (hb : w'.heap[r.B]? = w.heap[r.B]?) (k : BR ρ w r blk) : BR ρ' w' r blk := by
  obtain ⟨e, cs, fz, h1, h2, h3, h4, h5⟩ := k
  exact ⟨e, cs, fz, hb.trans h1, h2, h3, h4, fun i hi => (h5 i hi).mono h⟩
theorem BR.cell {ρ : Ren} {w : World} {r : RB} {blk : Blk} (k : BR ρ w r blk) {i : Nat} (hi : i < blk.cells.length) :
    ∃ v', w.cell? ⟨r.B, r.δ + i, none⟩ = some v' ∧ VR ρ (blk.cells.getD i undef) v' := by
  obtain ⟨e, cs, fz, h1, h2, h3, h4, h5⟩ := k
  refine ⟨cs.getD (r.δ + i) undef, ?_, h5 i hi⟩
  have hlt : r.δ + i < cs.size := by omega
  simp [World.cell?, h1, hlt]
theorem BR.frozen {ρ : Ren} {w : World} {r : RB} {blk : Blk} (k : BR ρ w r blk) {i : Nat} (hi : i < r.N) : w.frozen? ⟨r.B, i, none⟩ = false := by
  obtain ⟨e, cs, fz, h1, h2, h3, h4, h5⟩ := k
  simp only [World.frozen?, h1]
  rcases fz with ⟨lo, hi'⟩
  simp only at h3
  simp; omega
theorem BR.lt {ρ : Ren} {w : World} {r : RB} {blk : Blk} (k : BR ρ w r blk) : r.B < w.heap.size := by
  obtain ⟨e, cs, fz, h1, _⟩ := k
  rcases Nat.lt_or_ge r.B w.heap.size with q | q
  · exact q
  · rw [Array.getElem?_eq_none q] at h1; cases h1
structure Same (w w' : World) : Prop where
  os : w'.os = w.os
  tape : w'.tape = w.tape
  output : w'.output = w.output
  size : w.heap.size ≤ w'.heap.size
theorem Same.refl (w : World) : Same w w := ⟨rfl, rfl, rfl, Nat.le_refl _⟩
theorem Same.trans {a b c : World} (h : Same a b) (k : Same b c) : Same a c :=
  ⟨k.os.trans h.os, k.tape.trans h.tape, k.output.trans h.output, Nat.le_trans h.size k.size⟩
structure Grow (ρ : Ren) (w : World) (nm : Nat) (ob : Option Blk) (ρ' : Ren) (w' : World) : Prop where
  le : ρ.le ρ'
  other : ∀ b, b ≠ nm → ρ' b = ρ b
  same : Same w w'
  old : ∀ B, B < w.heap.size → w'.heap[B]? = w.heap[B]?
  none_ : ob = none → ρ' nm = ρ nm
  some_ : ∀ blk, ob = some blk → ∃ r, ρ' nm = some r ∧ w.heap.size ≤ r.B ∧ r.B < w'.heap.size ∧ BR ρ' w' r blk
theorem Grow.refl (ρ : Ren) (w : World) (nm : Nat) : Grow ρ w nm none ρ w :=
  ⟨Ren.le_refl _, fun _ _ => rfl, Same.refl _, fun _ _ => rfl, fun _ => rfl, fun _ h => by cases h⟩
theorem Grow.new {ρ : Ren} {w w' : World} {nm : Nat} (hnm : ρ nm = none) (blk : Blk) (cs : Array Value) (fz : Nat × Nat)
    (hsz : w'.heap.size = w.heap.size + 1) (hold : ∀ B, B < w.heap.size → w'.heap[B]? = w.heap[B]?) (hnew : w'.heap[w.heap.size]? = some (.cells cs blk.elem fz))
    (hfz : fz.2 ≤ fz.1 ∨ cs.size ≤ fz.1) (hos : w'.os = w.os) (htape : w'.tape = w.tape) (hout : w'.output = w.output)
    (hlen : blk.cells.length ≤ cs.size) (hv : ∀ i, i < blk.cells.length → VR ρ (blk.cells.getD i undef) (cs.getD i undef)) (hvar : blk.es = 0 → cs.size = blk.cells.length) :
    Grow ρ w nm (some blk) (ρ.upd nm ⟨w.heap.size, 0, cs.size, blk.es⟩) w' := by
  refine ⟨Ren.le_upd _ hnm, fun b hb => Ren.upd_other _ _ hb, ⟨hos, htape, hout, by omega⟩, hold, (fun h => by cases h), ?_⟩
  intro b hb
  cases hb
  refine ⟨_, Ren.upd_same _ _ _, Nat.le_refl _, by simp; omega, ⟨rfl, fun h => ⟨rfl, hvar h⟩⟩, cs, fz, hnew, rfl, hfz, by simpa using hlen, fun i hi => ?_⟩
  simpa using (hv i hi).mono (Ren.le_upd _ hnm)
theorem Grow.alloc {ρ : Ren} {w : World} {nm : Nat} (hnm : ρ nm = none) (blk : Blk) (cs : Array Value)
    (hlen : blk.cells.length ≤ cs.size) (hv : ∀ i, i < blk.cells.length → VR ρ (blk.cells.getD i undef) (cs.getD i undef)) (hvar : blk.es = 0 → cs.size = blk.cells.length) :
    Grow ρ w nm (some blk) (ρ.upd nm ⟨w.heap.size, 0, cs.size, blk.es⟩) (w.alloc (.cells cs blk.elem)) :=
  Grow.new hnm blk cs (0, 0) (by simp) (fun B hB => Below.heap_alloc _ _ _ hB) (by show (w.heap.push _)[w.heap.size]? = _; simp) (Or.inl (Nat.le_refl _)) rfl rfl rfl hlen hv hvar
def gput (g : Nat → Option Blk) (nm : Nat) (ob : Option Blk) : Nat → Option Blk :=
  match ob with
  | none => g
  | some b => fun x => if x = nm then some b else g x
theorem R.grow {ρ ρ' : Ren} {g : Nat → Option Blk} {w w' : World} {nm : Nat} {ob : Option Blk} (h : R ρ g w) (hnm : g nm = none) (k : Grow ρ w nm ob ρ' w') : R ρ' (gput g nm ob) w' := by
  have hlt : ∀ b r, ρ' b = some r → r.B < w'.heap.size := by
    intro b r hr
    by_cases e : b = nm
    · subst e
      cases ob with
      | none => rw [k.none_ rfl] at hr; exact Nat.lt_of_lt_of_le (h.lt _ _ hr) k.same.size
      | some blk => obtain ⟨r', h1, _, h3, _⟩ := k.some_ blk rfl; rw [h1] at hr; cases hr; exact h3
    · rw [k.other b e] at hr; exact Nat.lt_of_lt_of_le (h.lt _ _ hr) k.same.size
  have hold : ∀ b blk, g b = some blk → ∃ r, ρ b = some r ∧ ρ' b = some r ∧ BR ρ' w' r blk := by
    intro b blk hb
    obtain ⟨r, h1, h2⟩ := h.live b blk hb
    exact ⟨r, h1, k.le _ _ h1, h2.mono k.le (k.old _ (h.lt _ _ h1))⟩
  refine ⟨?_, ?_, hlt⟩
  · intro b blk hb
    cases ob with
    | none => obtain ⟨r, _, h2, h3⟩ := hold b blk hb; exact ⟨r, h2, h3⟩
    | some nb =>
      simp only [gput] at hb
      by_cases e : b = nm
      · subst e; rw [if_pos rfl] at hb; cases hb
        obtain ⟨r, h1, _, _, h4⟩ := k.some_ _ rfl; exact ⟨r, h1, h4⟩
      · rw [if_neg e] at hb; obtain ⟨r, _, h2, h3⟩ := hold b blk hb; exact ⟨r, h2, h3⟩
  · intro b₁ b₂ x₁ x₂ r₁ r₂ g1 g2 e1 e2 eB
    have old : ∀ b x r, b ≠ nm → g b = some x → ρ' b = some r → r.B < w.heap.size := fun b x r hb hx hr => by rw [k.other b hb] at hr; exact h.lt _ _ hr
    cases ob with
    | none =>
      obtain ⟨s1, a1, a2, _⟩ := hold b₁ x₁ g1
      obtain ⟨s2, c1, c2, _⟩ := hold b₂ x₂ g2
      rw [a2] at e1; rw [c2] at e2; cases e1; cases e2
      exact h.inj _ _ _ _ _ _ g1 g2 a1 c1 eB
    | some nb =>
      simp only [gput] at g1 g2
      obtain ⟨rn, n1, n2, _, _⟩ := k.some_ nb rfl
      by_cases q1 : b₁ = nm
      · by_cases q2 : b₂ = nm
        · rw [q1, q2]
        · rw [if_neg q2] at g2
          have := old b₂ _ _ q2 g2 e2
          rw [q1, n1] at e1; cases e1; omega
      · rw [if_neg q1] at g1
        by_cases q2 : b₂ = nm
        · have := old b₁ _ _ q1 g1 e1
          rw [q2, n1] at e2; cases e2; omega
        · rw [if_neg q2] at g2
          obtain ⟨s1, a1, a2, _⟩ := hold b₁ x₁ g1
          obtain ⟨s2, c1, c2, _⟩ := hold b₂ x₂ g2
          rw [a2] at e1; rw [c2] at e2; cases e1; cases e2
          exact h.inj _ _ _ _ _ _ g1 g2 a1 c1 eB
theorem R.sub {ρ : Ren} {g g' : Nat → Option Blk} {w : World} (h : R ρ g w) (hs : ∀ b x, g' b = some x → g b = some x) : R ρ g' w :=
  ⟨fun b x hb => h.live b x (hs b x hb), fun b₁ b₂ x₁ x₂ r₁ r₂ g1 g2 => h.inj b₁ b₂ x₁ x₂ r₁ r₂ (hs _ _ g1) (hs _ _ g2), h.lt⟩
def ER (ρ : Ren) (env : Env) (tmps : Array Value) : Prop := LR ρ env tmps.toList
theorem ER.put {ρ : Ren} {env : Env} {a : Act} (h : ER ρ env a.tmps) (dst : Option Tmp) {v v' : Value} (hv : VR ρ v v') : ER ρ (putA env dst v) (a.put dst v').tmps := by
  cases dst with
  | none => exact h
  | some d => simpa [ER, putA, Act.put] using LR.set h d hv
theorem evalO_sound {ρ : Ren} {env : Env} {a : Act} (h : ER ρ env a.tmps) {x : Operand} {v : Value} (e : evalO env x = some v) : VR ρ v (a.eval x) := by
  cases x with
  | tmp t =>
    simp only [evalO, Option.some.injEq] at e
    subst e
    simpa [Act.eval, getD_list] using h.2 t
  | const c =>
    simp only [evalO] at e
    split at e
    · cases e; exact VR.plain ‹_›
    · cases e
  | func f =>
    simp only [evalO, Option.some.injEq] at e
    subst e
    exact .func _ rfl rfl (fun i => by simpa using VR.unit) (fun i => by simpa using VR.unit)
  | global g => simp [evalO] at e
theorem evalOs_sound {ρ : Ren} {env : Env} {a : Act} (h : ER ρ env a.tmps) : ∀ (xs : List Operand) (vs : List Value), xs.mapM (evalO env) = some vs → LR ρ vs (xs.map a.eval)
  | [], vs, e => by simp at e; subst e; exact LR.nil
  | x :: xs, vs, e => by
    simp only [List.mapM_cons, Option.pure_def, Option.bind_eq_bind] at e
    cases h1 : evalO env x with
    | none => simp [h1] at e
    | some v =>
      cases h2 : xs.mapM (evalO env) with
      | none => simp [h1, h2] at e
      | some rest =>
        simp [h1, h2] at e; subst e
        exact LR.cons (evalO_sound h h1) (evalOs_sound h xs rest h2)
theorem evalPs_sound {ρ : Ren} {env : Env} {a : Act} (h : ER ρ env a.tmps) : ∀ (xs : List (Nat × Operand)) (vs : List (Nat × Value)),
    xs.mapM (fun p => (evalO env p.2).map fun v => (p.1, v)) = some vs → (xs.map fun p => p.1) = vs.map (·.1) ∧ LR ρ (vs.map (·.2)) (xs.map fun p => a.eval p.2)
  | [], vs, e => by simp at e; subst e; exact ⟨rfl, LR.nil⟩
  | (i, x) :: xs, vs, e => by
    simp only [List.mapM_cons, Option.pure_def, Option.bind_eq_bind] at e
    cases h1 : evalO env x with
    | none => simp [h1] at e
    | some v =>
      cases h2 : xs.mapM (fun p => (evalO env p.2).map fun v => (p.1, v)) with
      | none => simp [h1, h2] at e
      | some rest =>
        simp [h1, h2] at e; subst e
        obtain ⟨a1, a2⟩ := evalPs_sound h xs rest h2
        exact ⟨by simp [a1], by simpa using LR.cons (evalO_sound h h1) a2⟩
def LOk (ρ : Ren) (w : World) (nm : Nat) (v : Value) (ob : Option Blk) (r : Result Next) : Prop :=
  ∃ v' w' ρ', r = .ok (.value v') w' ∧ VR ρ' v v' ∧ Grow ρ w nm ob ρ' w'
theorem LOk.pure {ρ : Ren} {w : World} {nm : Nat} {v v' : Value} {r : Result Next} (h : VR ρ v v') (e : r = .ok (.value v') w) : LOk ρ w nm v none r :=
  ⟨v', w, ρ, e, h, Grow.refl _ _ _⟩
open Go.RowKit
section
variable {P : Program}
theorem rinfo {t : TypeId} {i : TypeInfo} (w : World) (h : P.info? t = some i) : (typeInfo t).run P w = .ok i w := by simp [typeInfo, h]
theorem rund {t : TypeId} {d : TypeDesc} (w : World) (h : P.underlying t = some d) : (underlying t).run P w = .ok d w := by simp [underlying, h]
theorem rsize {t : TypeId} {i : TypeInfo} (w : World) (h : P.info? t = some i) : (sizeOf t).run P w = .ok i.size w := by simp [sizeOf, rinfo w h]
theorem rzero {t : TypeId} {i : TypeInfo} {z : Value} (w : World) (h : P.info? t = some i) (hz : i.zero = some z) : (zeroValue t).run P w = .ok z w := by
  simp [zeroValue, rinfo w h, hz]
theorem add_none (B o n : Nat) : (Addr.add ⟨B, o, none⟩ n) = ⟨B, o + n, none⟩ := by
  unfold Addr.add; split
  · subst n; rfl
  · rfl
theorem AR.add {ρ : Ren} {a A : Addr} (h : AR ρ a A) (n : Nat) : AR ρ (a.add n) (A.add n) := by
  obtain ⟨r, h1, h2, h3⟩ := h
  obtain ⟨b, o, s⟩ := a
  simp only at h3; subst h3; subst h2
  refine ⟨r, by rw [add_none]; exact h1, ?_, by rw [add_none]⟩
  rw [add_none, add_none]; simp [Nat.add_assoc]
def isAggD : TypeDesc → Bool
  | .struct _ | .array _ _ => true
  | _ => false
theorem risAgg {t : TypeId} {d : TypeDesc} (w : World) (h : P.underlying t = some d) : (isAgg t).run P w = .ok (isAggD d) w := by
  cases d <;> simp [isAgg, rund w h, isAggD]
theorem partA_cases {t : TypeId} {cs : List Value} {off : Nat} {v : Value} (h : partA P t cs off = some v) :
    ∃ d i, P.underlying t = some d ∧ P.info? t = some i ∧
      ((isAggD d = true ∧ off + i.size ≤ cs.length ∧ v = .agg ((cs.drop off).take i.size).toArray) ∨ (isAggD d = false ∧ cs[off]? = some v)) := by
  unfold partA at h
  cases hd : P.underlying t with
  | none => simp [hd] at h
  | some d =>
    cases hi : P.info? t with
    | none => cases d <;> simp [hd, hi] at h
    | some i =>
      refine ⟨d, i, rfl, rfl, ?_⟩
      cases d <;> simp [hd, hi] at h <;> first
        | exact Or.inr ⟨rfl, h⟩
        | exact Or.inl ⟨rfl, h.1, h.2.symm⟩
theorem part_sound {ρ : Ren} {t : TypeId} {cs : List Value} {ds : Array Value} {off : Nat} {v : Value} (w : World) (h : partA P t cs off = some v) (hr : LR ρ cs ds.toList) :
    ∃ v', (part t ds off).run P w = .ok v' w ∧ VR ρ v v' := by
  obtain ⟨d, i, hd, hi, h | h⟩ := partA_cases h
  · obtain ⟨h1, h2, rfl⟩ := h
    refine ⟨.agg (ds.extract off (off + i.size)), by simp [part, risAgg w hd, h1, rsize w hi], ?_⟩
    have := LR.agg ((hr.drop off).take i.size)
    have e : ((ds.toList.drop off).take i.size).toArray = ds.extract off (off + i.size) := by
      apply Array.ext'; simp
    rw [e] at this; exact this
  · obtain ⟨h1, h2⟩ := h
    obtain ⟨y, hy, hv⟩ := hr.get? h2
    have : ds[off]? = some y := by simpa using hy
    exact ⟨y, by simp [part, risAgg w hd, h1, this], hv⟩
theorem BR.list {ρ : Ren} {w : World} {r : RB} {blk : Blk} (k : BR ρ w r blk) : ∃ ds : List Value, LR ρ blk.cells ds ∧
    ∀ i v, ds[i]? = some v → w.cell? ⟨r.B, r.δ + i, none⟩ = some v := by
  obtain ⟨e, cs, fz, h1, h2, h3, h4, h5⟩ := k
  have hl : ((cs.toList.drop r.δ).take blk.cells.length).length = blk.cells.length := by simp; omega
  refine ⟨(cs.toList.drop r.δ).take blk.cells.length, ⟨hl.symm, fun i => ?_⟩, fun i v hi => ?_⟩
  · by_cases hi : i < blk.cells.length
    · have := h5 i hi
      simp only [List.getD, List.getElem?_take, hi, if_true, List.getElem?_drop]
      rw [getD_list] at this
      simpa [List.getD] using this
    · simp only [List.getD, List.getElem?_eq_none (Nat.le_of_not_lt hi), List.getElem?_take, hi, if_false, Option.getD_none]; exact .unit
  · simp only [List.getElem?_take, List.getElem?_drop] at hi
    split at hi
    · have : cs[r.δ + i]? = some v := by simpa using hi
      simp [World.cell?, h1, this]
    · cases hi
theorem loadCells_sound {ρ : Ren} {w : World} {r : RB} {blk : Blk} (k : BR ρ w r blk) {off n : Nat} (hn : off + n ≤ blk.cells.length) :
    ∃ ds : List Value, (loadCells ⟨r.B, r.δ + off, none⟩ n).run P w = .ok ds.toArray w ∧ LR ρ ((blk.cells.drop off).take n) ds ∧ ds.length = n ∧
      (∀ j v, ds[j]? = some v → w.cell? ((⟨r.B, r.δ + off, none⟩ : Addr).add j) = some v) := by
  obtain ⟨ds, h1, h2⟩ := k.list
  have hl : ((ds.drop off).take n).length = n := by
    simp only [List.length_take, List.length_drop, ← h1.1]; omega
  have hc : ∀ j v, ((ds.drop off).take n)[j]? = some v → w.cell? ((⟨r.B, r.δ + off, none⟩ : Addr).add j) = some v := by
    intro j v hj
    rw [add_none, Nat.add_assoc]
    apply h2
    simp only [List.getElem?_take, List.getElem?_drop] at hj
    split at hj
    · exact hj
    · cases hj
  refine ⟨(ds.drop off).take n, ?_, (h1.drop off).take n, hl, hc⟩
  have := run_loadCells_list (P := P) w ⟨r.B, r.δ + off, none⟩ _ hc
  rw [hl] at this; exact this
theorem loadVar_sound {ρ : Ren} {w : World} {r : RB} {blk : Blk} (k : BR ρ w r blk) {t : TypeId} {off : Nat} {v : Value} (h : partA P t blk.cells off = some v) :
    ∃ v', (loadVar t ⟨r.B, r.δ + off, none⟩).run P w = .ok v' w ∧ VR ρ v v' := by
  obtain ⟨d, i, hd, hi, h | h⟩ := partA_cases h
  · obtain ⟨h1, h2, rfl⟩ := h
    obtain ⟨ds, q1, q2, _⟩ := loadCells_sound (P := P) k h2
    exact ⟨_, by simp [loadVar, risAgg w hd, h1, rsize w hi, q1], LR.agg q2⟩
  · obtain ⟨h1, h2⟩ := h
    obtain ⟨ds, q1, q2⟩ := k.list
    obtain ⟨y, hy, hv⟩ := q1.get? h2
    exact ⟨y, by simp [loadVar, risAgg w hd, h1, q2 _ _ hy], hv⟩
theorem evEqF_sound {ρ : Ren} (w : World) {xs ys ds es : Array Value} (l1 : LR ρ xs.toList ds.toList) (l2 : LR ρ ys.toList es.toList) (d : Nat) {b : Bool} : ∀ {fs : List Field}, evEqF P xs.toList ys.toList fs = some b → (Op.eqFields (d + 1) ds es fs).run P w = .ok b w := by
  intro fs
  induction fs with
  | nil => intro h; simp only [evEqF] at h; cases h; simp [Op.eqFields]
  | cons f fs ih =>
    intro h
    simp only [evEqF] at h
    split at h
    · cases h
    · rename_i hn
      split at h
      · rename_i k a k' a' h1 h2
        obtain ⟨v1, r1, q1⟩ := part_sound w h1 l1
        obtain ⟨v2, r2, q2⟩ := part_sound w h2 l2
        cases q1; cases q2
        split at h
        · rename_i kk hu
          split at h
          · rename_i hk; subst hk
            split at h
            · rename_i he
              simp only [Op.eqFields, if_pos hn, ne_eq, hn, not_false_eq_true, if_true, Sem.run_bind, r1, r2, Result.andThen_ok, run_equalIn_int w d f.type k kk a a' hu, he, Bool.not_true, Bool.false_eq_true, if_false]
              exact ih h
            · rename_i he
              cases h
              simp only [Op.eqFields, if_pos hn, ne_eq, hn, not_false_eq_true, if_true, Sem.run_bind, r1, r2, Result.andThen_ok, run_equalIn_int w d f.type k kk a a' hu, (by simpa using he : (a == a') = false), Bool.not_false, Sem.run_pure]
          · cases h
        · cases h
      · rename_i a a' h1 h2
        obtain ⟨v1, r1, q1⟩ := part_sound w h1 l1
        obtain ⟨v2, r2, q2⟩ := part_sound w h2 l2
        cases q1; cases q2
        split at h
        · rename_i hu
          split at h
          · rename_i he
            simp only [Op.eqFields, if_pos hn, ne_eq, hn, not_false_eq_true, if_true, Sem.run_bind, r1, r2, Result.andThen_ok, run_equalIn_bool' w d f.type a a' hu, he, Bool.not_true, Bool.false_eq_true, if_false]
            exact ih h
          · rename_i he
            cases h
            simp only [Op.eqFields, if_pos hn, ne_eq, hn, not_false_eq_true, if_true, Sem.run_bind, r1, r2, Result.andThen_ok, run_equalIn_bool' w d f.type a a' hu, (by simpa using he : (a == a') = false), Bool.not_false, Sem.run_pure]
        · cases h
      · rename_i a a' h1 h2
        obtain ⟨v1, r1, q1⟩ := part_sound w h1 l1
        obtain ⟨v2, r2, q2⟩ := part_sound w h2 l2
        cases q1; cases q2
        split at h
        · rename_i hu
          split at h
          · rename_i he
            simp only [Op.eqFields, if_pos hn, ne_eq, hn, not_false_eq_true, if_true, Sem.run_bind, r1, r2, Result.andThen_ok, run_equalIn_string w d f.type a a' hu, he, Bool.not_true, Bool.false_eq_true, if_false]
            exact ih h
          · rename_i he
            cases h
            simp only [Op.eqFields, if_pos hn, ne_eq, hn, not_false_eq_true, if_true, Sem.run_bind, r1, r2, Result.andThen_ok, run_equalIn_string w d f.type a a' hu, (by simpa using he : (a.toList == a'.toList) = false), Bool.not_false, Sem.run_pure]
        · cases h
      · cases h
theorem evEq_sound {ρ : Ren} (w : World) {t : TypeId} {x y x' y' : Value} {b : Bool} (h : evEq P t x y = some b) (hx : VR ρ x x') (hy : VR ρ y y') (ox oy : Operand) :
    (Op.equal t x' y').run P w = .ok b w ∧
      (∀ op, (eqGuard op t ox oy x' y').run P w = .ok () w) ∧ (∀ op, op = .eql → binOp op t x' y' = (do pure (.bool (← Op.equal t x' y')))) ∧
        (∀ op, op = .neq → binOp op t x' y' = (do pure (.bool (!(← Op.equal t x' y'))))) := by
  obtain ⟨dd, eq⟩ : ∃ dd, (Op.equal t x' y') = Op.equalIn (dd + 1) t x' y' := ⟨9999, rfl⟩
  obtain ⟨de, eq2⟩ : ∃ dd, (Op.equal t x' y') = Op.equalIn (dd + 1 + 1) t x' y' := ⟨9998, rfl⟩
  unfold evEq at h
  split at h
  · -- bools
    cases hx; cases hy
    split at h
    · rename_i hu; cases h
      exact ⟨by rw [eq]; simp [Op.equalIn, rund w hu], fun op => by cases op <;> simp [eqGuard], fun op e => by subst e; rfl, fun op e => by subst e; rfl⟩
    · cases h
  · cases hx
    split at h
    · rename_i e hu; cases h
      cases hy <;> exact ⟨by rw [eq]; simp [Op.equalIn, rund w hu], fun op => by cases op <;> simp [eqGuard], fun op e => by subst e; rfl, fun op e => by subst e; rfl⟩
    · cases h
  · cases hy
    split at h
    · rename_i e hu; cases h
      cases hx; exact ⟨by rw [eq]; simp [Op.equalIn, rund w hu], fun op => by cases op <;> simp [eqGuard], fun op e => by subst e; rfl, fun op e => by subst e; rfl⟩
    · cases h
  · rename_i a b'
    cases hx with
    | ptr ha =>
      cases hy with
      | ptr hb =>
        split at h
        · rename_i e hu
          split at h
          · rename_i i hi
            split at h
            · rename_i hc
              cases h
              obtain ⟨r, r1, r2, r3⟩ := ha
              obtain ⟨q, q1, q2, q3⟩ := hb
              rw [hc.2] at r1; rw [r1] at q1; cases q1
              subst r2 q2
              refine ⟨?_, fun op => by cases op <;> simp [eqGuard], fun op e => by subst e; rfl, fun op e => by subst e; rfl⟩
              have : ((⟨r.B, r.δ + a.off, none⟩ : Addr) == ⟨r.B, r.δ + b'.off, none⟩) = (a.off == b'.off) := by
                rw [Bool.eq_iff_iff]; simp
              rw [eq]; simp [Op.equalIn, rund w hu, rsize w hi, hc.1, sameAddr, this]
            · cases h
          · cases h
        · cases h
  · cases hx; cases hy
    split at h
    · rename_i e hu; cases h
      exact ⟨by rw [eq]; simp [Op.equalIn, rund w hu], fun op => by cases op <;> simp [eqGuard], fun op e => by subst e; rfl, fun op e => by subst e; rfl⟩
    · cases h
  · cases hx; cases hy
    split at h
    · rename_i e hu; cases h
      exact ⟨by rw [eq]; simp [Op.equalIn, rund w hu], fun op => by cases op <;> simp [eqGuard], fun op e => by subst e; rfl, fun op e => by subst e; rfl⟩
    · cases h
  · cases hx; cases hy
    split at h
    · rename_i e hu; cases h
      exact ⟨by rw [eq]; simp [Op.equalIn, rund w hu], fun op => by cases op <;> simp [eqGuard], fun op e => by subst e; rfl, fun op e => by subst e; rfl⟩
    · cases h
  · cases hx; cases hy
    split at h
    · rename_i hu; cases h
      exact ⟨by rw [eq]; simp [Op.equalIn, rund w hu], fun op => by cases op <;> simp [eqGuard], fun op e => by subst e; rfl, fun op e => by subst e; rfl⟩
    · cases h
  · cases hx; cases hy
    split at h
    · rename_i hu; cases h
      exact ⟨by rw [eq]; simp [Op.equalIn, rund w hu], fun op => by cases op <;> simp [eqGuard], fun op e => by subst e; rfl, fun op e => by subst e; rfl⟩
    · cases h
  · cases hx; cases hy
    split at h
    · rename_i hu; cases h
      exact ⟨by rw [eq]; simp [Op.equalIn, rund w hu], fun op => by cases op <;> simp [eqGuard], fun op e => by subst e; rfl, fun op e => by subst e; rfl⟩
    · cases h
  · rename_i xs ys
    split at h
    · rename_i fs hu
      split at h
      · rename_i hc
        cases hx with | agg hs hh => cases hy with | agg hs2 hh2 =>
        rename_i ds es
        have l1 : LR ρ xs.toList ds.toList := ⟨by simpa using hs, fun i => by have := hh i; simpa using this⟩
        have l2 : LR ρ ys.toList es.toList := ⟨by simpa using hs2, fun i => by have := hh2 i; simpa using this⟩
        have hf : P.fieldsOf t = fs := by simp [Program.fieldsOf, hu]
        have e := evEqF_sound w l1 l2 de h
        refine ⟨by rw [eq2, run_equalIn_struct w (de + 1) t ds es (by rw [hf]; exact hu) hc.1, hf]; exact e, fun op => run_eqGuard_agg w op t ox oy ds es hc.2, fun op e => by subst e; rfl, fun op e => by subst e; rfl⟩
      · cases h
    · cases h
  · cases h
theorem evBin_sound {ρ : Ren} (w : World) {op : BinOp} {t : TypeId} {x y x' y' v : Value} (h : evBin P op t x y = some v) (hx : VR ρ x x') (hy : VR ρ y y') (ox oy : Operand) :
    ∃ v', (do eqGuard op t ox oy x' y'; binOp op t x' y' : Sem Value).run P w = .ok v' w ∧ VR ρ v v' := by
  unfold evBin at h
  split at h
  · cases hx; cases hy
    cases op <;> simp only at h <;> (first | cases h | skip) <;> (try split at h) <;> (first | cases h | skip) <;> (rename_i hc)
    all_goals first
      | (subst hc; refine ⟨_, ?_, by constructor⟩; simp [eqGuard, binOp, Op.intArith, Op.intBits, Op.intCmp])
      | (obtain ⟨hc, h0⟩ := hc; subst hc; refine ⟨_, ?_, by constructor⟩; simp [eqGuard, binOp, Op.intDiv, h0])
      | (refine ⟨_, ?_, by constructor⟩; simp [eqGuard, binOp, Op.shift, hc])
  · rename_i s1 s2
    cases hx; cases hy
    cases op <;> simp only at h <;> (first | cases h | skip) <;> (try split at h) <;> (first | cases h | skip)
    case h_2.str.str.add.isTrue.refl hc =>
      have : ¬ ((9223372036854775807 : Int) < (s1.size : Int) + (s2.size : Int)) := by omega
      refine ⟨_, ?_, by constructor⟩; simp [eqGuard, binOp, Op.stringOp, IntKind.max, IntKind.signed, IntKind.bits, this]
    all_goals (refine ⟨_, ?_, by constructor⟩; simp [eqGuard, binOp, Op.stringOp])
  · split at h
    · cases he : evEq P t x y with
      | none => simp [he] at h
      | some b =>
        simp [he] at h; subst h
        obtain ⟨h1, h2, h3, _⟩ := evEq_sound w he hx hy ox oy
        exact ⟨.bool b, by rw [h3 _ rfl]; simp [h2, h1], .bool b⟩
    · cases he : evEq P t x y with
      | none => simp [he] at h
      | some b =>
        simp [he] at h; subst h
        obtain ⟨h1, h2, _, h3⟩ := evEq_sound w he hx hy ox oy
        exact ⟨.bool !b, by rw [h3 _ rfl]; simp [h2, h1], .bool _⟩
    · cases h
theorem evUn_sound {ρ : Ren} (w : World) {op : UnOp} {x x' v : Value} (h : evUn op x = some v) (hx : VR ρ x x') :
    ∃ v', (Op.unary op x').run P w = .ok v' w ∧ VR ρ v v' := by
  unfold evUn at h
  split at h
  · cases hx; cases h; refine ⟨_, ?_, by constructor⟩; simp [Op.unary, Op.intArith]
  · cases hx; cases h; refine ⟨_, ?_, by constructor⟩; simp [Op.unary, Op.intBits]
  · cases hx; cases h; refine ⟨_, ?_, by constructor⟩; simp [Op.unary]
  · cases h
end
open Go.RowKit
section
variable {P : Program}
theorem bound_sound {ρ : Ren} {env : Env} {a : Act} (w : World) (hE : ER ρ env a.tmps) {o : Operand} {d top n : Nat} {code : BoundsCode} (h : bound? env (some o) d top = some n) {top' : Nat} (ht : top ≤ top') :
    (Instr.sliceBound (a.eval o) top' code).run P w = .ok n w ∧ n ≤ top := by
  unfold bound? at h
  simp only at h
  split at h
  · rename_i k i ho
    have := evalO_sound hE ho
    split at h
    · rename_i hc
      cases h
      cases hv : a.eval o <;> rw [hv] at this <;> cases this
      have : 0 ≤ i ∧ i ≤ (top' : Int) := ⟨hc.1, by omega⟩
      exact ⟨by simp [Instr.sliceBound, asIntOf, this], by omega⟩
    · cases h
  · cases h
theorem addr_cut {ρ : Ren} {b B : Addr} {l m C sz : Nat} (hlm : l ≤ m) (hmC : m ≤ C) (hA : C ≠ 0 → SR ρ b B C) (hs : l = 0 ∨ ∀ r, ρ b.block = some r → r.es = sz) (h0 : m - l ≠ 0) :
    SR ρ (b.add (l * sz)) (if m = l then B else B.add (l * sz)) (m - l) := by
  obtain ⟨r, h1, h2, h3, h4⟩ := hA (by omega)
  rw [if_neg (by omega)]
  obtain ⟨bb, bo, bs⟩ := b
  simp only at h1 h2 h3 h4; subst h3 h2
  rw [add_none, add_none]
  refine ⟨r, h1, by simp [Nat.add_assoc], rfl, ?_⟩
  simp only
  rcases hs with hs | hs
  · subst hs
    have : (m - 0) * r.es ≤ C * r.es := Nat.mul_le_mul_right _ (by omega)
    simp at this ⊢; omega
  · have e := hs r h1
    subst e
    have : (m - l) * r.es + l * r.es = m * r.es := by rw [← Nat.add_mul]; congr 1; omega
    have : m * r.es ≤ C * r.es := Nat.mul_le_mul_right _ hmC
    omega
theorem evSlice_sound {ρ : Ren} {env : Env} {a : Act} {g : Nat → Option Blk} (w : World) (hR : R ρ g w) (hE : ER ρ env a.tmps) {t : TypeId} {x x' v : Value} {lo hi mx : Option Operand}
    (h : evSlice P env g t x lo hi mx = some v) (hx : VR ρ x x') :
    ∃ v', (Instr.sliceAt t x' (lo.map a.eval) (hi.map a.eval) (mx.map a.eval)).run P w = .ok v' w ∧ VR ρ v v' := by
  unfold evSlice at h
  split at h
  · -- a string
    rename_i s hu
    cases hx
    cases mx with
    | some m => simp at h
    | none =>
      simp only [Option.isSome_none, Bool.false_eq_true, if_false] at h
      split at h
      · rename_i hh e1
        split at h
        · rename_i l e2
          cases h
          refine ⟨_, ?_, .str _⟩
          cases hi with
          | none =>
            simp only [bound?, Option.some.injEq] at e1; subst e1
            cases lo with
            | none => simp only [bound?, Option.some.injEq] at e2; subst e2; simp [Instr.sliceAt, Instr.slice, rund w hu, Instr.sliceBounds]
            | some lo =>
              obtain ⟨q, _⟩ := bound_sound (P := P) (code := .sliceB) w hE e2 (Nat.le_refl _)
              simp [Instr.sliceAt, Instr.slice, rund w hu, Instr.sliceBounds, q]
          | some hi =>
            obtain ⟨q1, _⟩ := bound_sound (P := P) (code := .sliceAlen) w hE e1 (Nat.le_refl _)
            cases lo with
            | none => simp only [bound?, Option.some.injEq] at e2; subst e2; simp [Instr.sliceAt, Instr.slice, rund w hu, Instr.sliceBounds, q1]
            | some lo =>
              obtain ⟨q, _⟩ := bound_sound (P := P) (code := .sliceB) w hE e2 (Nat.le_refl _)
              simp [Instr.sliceAt, Instr.slice, rund w hu, Instr.sliceBounds, q, q1]
        · cases h
      · cases h
  · -- a slice
    rename_i e a0 n c hu
    split at h
    · cases h
    · rename_i i hi'
      have hes : ∀ b : Addr, (g b.block).map (·.es) = some i.size → ∀ r, ρ b.block = some r → r.es = i.size := by
        intro b hb r hr
        cases hg : g b.block with
        | none => simp [hg] at hb
        | some blk =>
          obtain ⟨r', h1, h2⟩ := hR.live _ _ hg
          rw [hr] at h1; cases h1
          simp [hg] at hb
          rw [h2.1.1, hb]
      obtain ⟨A, C, rfl, hnC, hc, hA, hnil⟩ : ∃ A C, x' = .slice A n C ∧ n ≤ C ∧ (c = 0 → C = 0) ∧ (∀ b, a0 = some b → ∃ B, A = some B ∧ (C ≠ 0 → SR ρ b B C)) ∧ (a0 = none → A = none ∧ n = 0 ∧ C = 0 ∧ c = 0) := by
        cases hx with
        | snil => exact ⟨none, 0, rfl, Nat.le_refl _, fun _ => rfl, fun b hb => (by cases hb), fun _ => ⟨rfl, rfl, rfl, rfl⟩⟩
        | slice h1 h2 h3 => exact ⟨_, _, rfl, h1, h2, fun b hb => (by cases hb; exact ⟨_, rfl, h3⟩), fun hb => (by cases hb)⟩
      -- what the model's bounds come to
      have bounds : ∀ l hh m, (mx = none → m = C ∧ (bound? env hi n n = some hh)) → (∀ q, mx = some q → bound? env mx 0 n = some m ∧ hi.isNone = false ∧ bound? env hi 0 m = some hh) →
          bound? env lo 0 hh = some l → (Instr.sliceBounds true n C (lo.map a.eval) (hi.map a.eval) (mx.map a.eval)).run P w = .ok (l, hh, m) w ∧ l ≤ hh ∧ hh ≤ m ∧ m ≤ C := by
        intro l hh m h1 h2 h3
        have low : (lo = none ∧ l = 0) ∨ ∃ q, lo = some q ∧ (∀ code, (Instr.sliceBound (a.eval q) hh code).run P w = .ok l w) ∧ l ≤ hh := by
          cases lo with
          | none => simp only [bound?, Option.some.injEq] at h3; exact Or.inl ⟨rfl, h3.symm⟩
          | some lo => exact Or.inr ⟨lo, rfl, fun code => (bound_sound (P := P) (code := code) w hE h3 (Nat.le_refl _)).1, (bound_sound (P := P) (code := .sliceB) w hE h3 (Nat.le_refl _)).2⟩
        cases mx with
        | none =>
          obtain ⟨rfl, h4⟩ := h1 rfl
          cases hi with
          | none =>
            simp only [bound?, Option.some.injEq] at h4; subst h4
            rcases low with ⟨rfl, rfl⟩ | ⟨lq, rfl, q, q'⟩
            · exact ⟨by simp [Instr.sliceBounds], by omega, hnC, Nat.le_refl _⟩
            · exact ⟨by simp [Instr.sliceBounds, q], q', hnC, Nat.le_refl _⟩
          | some hi =>
            obtain ⟨p, p'⟩ := bound_sound (P := P) (code := .sliceAcap) w hE h4 hnC
            rcases low with ⟨rfl, rfl⟩ | ⟨lq, rfl, q, q'⟩
            · exact ⟨by simp [Instr.sliceBounds, p], by omega, by omega, Nat.le_refl _⟩
            · exact ⟨by simp [Instr.sliceBounds, p, q], q', by omega, Nat.le_refl _⟩
        | some mm =>
          obtain ⟨h4, h5, h6⟩ := h2 mm rfl
          cases hi with
          | none => simp at h5
          | some hi =>
            obtain ⟨s, s'⟩ := bound_sound (P := P) (code := .slice3Acap) w hE h4 hnC
            obtain ⟨p, p'⟩ := bound_sound (P := P) (code := .slice3B) w hE h6 (Nat.le_refl _)
            rcases low with ⟨rfl, rfl⟩ | ⟨lq, rfl, q, q'⟩
            · exact ⟨by simp [Instr.sliceBounds, s, p], by omega, p', by omega⟩
            · exact ⟨by simp [Instr.sliceBounds, s, p, q], q', p', by omega⟩
      have fin : ∀ l hh m, (Instr.sliceBounds true n C (lo.map a.eval) (hi.map a.eval) (mx.map a.eval)).run P w = .ok (l, hh, m) w →
          (Instr.sliceAt t (.slice A n C) (lo.map a.eval) (hi.map a.eval) (mx.map a.eval)).run P w = .ok (.slice (if m = l then A else A.map (·.add (l * i.size))) (hh - l) (m - l)) w := by
        intro l hh m hb
        simp [Instr.sliceAt, Instr.slice, rund w hu, hb, rsize w hi']
      split at h
      · -- no max
        split at h
        · cases h
        · rename_i hh e1
          split at h
          · cases h
          · rename_i l e2
            obtain ⟨q, q1, q2, q3⟩ := bounds l hh C (fun _ => ⟨rfl, e1⟩) (fun _ hq => by cases hq) e2
            cases a0 with
            | none =>
              obtain ⟨rfl, rfl, rfl, rfl⟩ := hnil rfl
              simp at h; subst h
              have : l = 0 := by omega
              subst this
              have : hh = 0 := by omega
              subst this
              exact ⟨_, fin _ _ _ q, by simpa using VR.snil⟩
            | some b =>
              obtain ⟨B, rfl, hB⟩ := hA b rfl
              simp only at h
              split at h
              · rename_i hs
                cases h
                refine ⟨_, fin _ _ _ q, ?_⟩
                have := addr_cut (ρ := ρ) (b := b) (B := B) (sz := i.size) (l := l) (m := C) (C := C) (by omega) (Nat.le_refl _) hB (hs.imp id (hes b))
                split
                · rename_i hq; rw [if_pos hq] at this; exact .slice (by omega) (fun h0 => by have := hc h0; omega) this
                · rename_i hq; rw [if_neg hq] at this; exact .slice (by omega) (fun h0 => by have := hc h0; omega) this
              · cases h
      · rename_i mm
        split at h
        · cases h
        · rename_i m e0
          split at h
          · cases h
          · rename_i hh e1
            split at h
            · cases h
            · rename_i l e2
              split at h
              · cases h
              · rename_i hn
                have hn' : hi.isNone = false := by cases hi <;> simp at hn ⊢
                obtain ⟨q, q1, q2, q3⟩ := bounds l hh m (fun hq => by cases hq) (fun _ _ => ⟨e0, hn', e1⟩) e2
                cases a0 with
                | none =>
                  obtain ⟨rfl, rfl, rfl, rfl⟩ := hnil rfl
                  simp at h; subst h
                  have : l = 0 := by omega
                  subst this
                  have : hh = 0 := by omega
                  subst this
                  have : m = 0 := by omega
                  subst this
                  exact ⟨_, fin _ _ _ q, by simpa using VR.snil⟩
                | some b =>
                  obtain ⟨B, rfl, hB⟩ := hA b rfl
                  simp only at h
                  split at h
                  · rename_i hs
                    cases h
                    refine ⟨_, fin _ _ _ q, ?_⟩
                    have := addr_cut (ρ := ρ) (b := b) (B := B) (sz := i.size) (l := l) (m := m) (C := C) (by omega) q3 hB (hs.imp id (hes b))
                    by_cases hq : m = l
                    · rw [if_pos hq] at this ⊢; rw [if_pos hq]; exact .slice (by omega) (fun h0 => by omega) this
                    · rw [if_neg hq] at this ⊢; rw [if_neg hq]; exact .slice (by omega) (fun h0 => by omega) this
                  · cases h
  · cases h
theorem evIndex_sound {ρ : Ren} (w : World) {t : TypeId} {x ix x' ix' v : Value} (h : evIndex P t x ix = some v) (hx : VR ρ x x') (hi : VR ρ ix ix') :
    ∃ v', (Instr.index t x' ix').run P w = .ok v' w ∧ VR ρ v v' := by
  unfold evIndex at h
  split at h
  · rename_i len e cs k i hu
    cases hi
    cases hx with
    | agg hs hv =>
      split at h
      · rename_i ie hie
        split at h
        · rename_i hc
          obtain ⟨v', h1, h2⟩ := part_sound w h (LR.of_agg hs hv)
          exact ⟨v', by simp [Instr.index, asIntOf, rund w hu, hc, rsize w hie, h1], h2⟩
        · cases h
      · cases h
  · rename_i s k i hu
    cases hi; cases hx
    split at h
    · rename_i hc
      cases hb : s[i.toNat]? with
      | none => simp [hb] at h
      | some b => simp [hb] at h; subst h; exact ⟨_, by simp [Instr.index, asIntOf, rund w hu, hc, hb], .int _ _⟩
    · cases h
  · cases h
theorem evIndexAddr_sound {ρ : Ren} (w : World) {t : TypeId} {x ix x' ix' v : Value} (h : evIndexAddr P t x ix = some v) (hx : VR ρ x x') (hi : VR ρ ix ix') :
    ∃ v', (Instr.indexAt t x' ix').run P w = .ok v' w ∧ VR ρ v v' := by
  unfold evIndexAddr at h
  split at h
  · rename_i len e a k i hu
    cases hi
    cases hx with
    | ptr ha =>
      split at h
      · rename_i ie hie
        split at h
        · rename_i hc
          cases h
          exact ⟨_, by simp [Instr.indexAt, asIntOf, rund w hu, Instr.sureAddr, hc, rsize w hie], .ptr (ha.add _)⟩
        · cases h
      · cases h
  · rename_i e a n c k i hu
    cases hi
    cases hx with
    | slice h1 h2 h3 =>
      split at h
      · rename_i ie hie
        split at h
        · rename_i hc
          cases h
          obtain ⟨r, s1, s2, s3, _⟩ := h3 (by omega)
          have hc' : 0 ≤ i ∧ i < (n : Int) := ⟨hc.1, hc.2.1⟩
          exact ⟨_, by simp [Instr.indexAt, asIntOf, rund w hu, hc', rsize w hie], .ptr (AR.add ⟨r, s1, s2, s3⟩ _)⟩
        · cases h
      · cases h
  · cases h
end
open Go.RowKit
section
variable {P : Program}
theorem bytesOf_sound {ρ : Ren} : ∀ {xs ys : List Value} {bs : List UInt8}, bytesOf xs = some bs → LR ρ xs ys → ∃ ns : List Int, ys = ns.map (Value.int .u8) ∧ bs = ns.map fun n => UInt8.ofNat n.toNat
  | [], ys, bs, h, k => by
    simp only [bytesOf, Option.some.injEq] at h; subst h
    rw [LR.nil_inv k]; exact ⟨[], rfl, rfl⟩
  | x :: xs, zs, bs, h, k => by
    obtain ⟨y, ys, rfl, h1, h2⟩ := k.cons_inv
    cases x with
    | int kk n =>
      cases kk <;> simp only [bytesOf] at h <;> (first | cases h | skip)
      cases hb : bytesOf xs with
      | none => simp [hb] at h
      | some r =>
        simp [hb] at h; subst h
        cases h1
        obtain ⟨ns, e1, e2⟩ := bytesOf_sound hb h2
        exact ⟨n :: ns, by simp [e1], by simp [e2]⟩
    | _ => simp [bytesOf] at h
theorem bytesToString_run (w : World) (a : Addr) (ns : List Int) (len cap : Nat) (hl : ns.length = len)
    (h : (loadCells a len).run P w = .ok (ns.map (Value.int .u8)).toArray w) :
    (Conv.bytesToString (.slice (some a) len cap)).run P w = .ok (.string ⟨(ns.map fun n => UInt8.ofNat n.toNat).toArray⟩) w := by
  rw [run_bytesToString w a len cap ns h, foldl_push_bytes]
  have : ByteArray.empty.data = #[] := rfl
  simp [this]
theorem evConv_sound {ρ : Ren} {g : Nat → Option Blk} (w : World) (hR : R ρ g w) {nm : Nat} (hnm : ρ nm = none) {src dst : TypeId} {x x' v : Value} {ob : Option Blk}
    (h : evConv P g nm src dst x = some (v, ob)) (hx : VR ρ x x') :
    ∃ v' w' ρ', (convert src dst x').run P w = .ok v' w' ∧ VR ρ' v v' ∧ Grow ρ w nm ob ρ' w' := by
  have triv : ∀ {v' : Value}, (convert src dst x').run P w = .ok v' w → VR ρ v v' → ob = none → ∃ v' w' ρ', (convert src dst x').run P w = .ok v' w' ∧ VR ρ' v v' ∧ Grow ρ w nm ob ρ' w' :=
    fun h1 h2 h3 => ⟨_, w, ρ, h1, h2, h3 ▸ Grow.refl _ _ _⟩
  unfold evConv at h
  split at h
  · rename_i d k k' n h1 h2
    cases hx; cases h
    exact triv (by simp [convert, rund w h1, rund w h2, Conv.intToInt]) (.int _ _) rfl
  · rename_i d s h1 h2
    cases hx; cases h
    refine triv ?_ (.str _) rfl
    cases d <;> simp [convert, rund w h1, rund w h2]
  · rename_i e h1 h2
    cases hx
    split at h
    · rename_i h3; cases h
      exact triv (by simp [convert, rund w h1, rund w h2, rund w h3, Conv.bytesToString]) (.str _) rfl
    · cases h
  · rename_i e a n c h1 h2
    cases hx with
    | slice q1 q2 q3 =>
      rename_i A C
      split at h
      · rename_i h3
        have red : ∀ v', (Conv.bytesToString (.slice (some A) n C)).run P w = .ok v' w → (convert src dst (.slice (some A) n C)).run P w = .ok v' w := by
          intro v' hv; simp [convert, rund w h1, rund w h2, rund w h3, hv]
        split at h
        · rename_i hn; subst hn; cases h
          refine triv (red _ ?_) (.str _) rfl
          exact bytesToString_run w A [] 0 C rfl (by simp [loadCells, loadCellsFrom])
        · rename_i hn
          split at h
          · rename_i blk hg
            split at h
            · rename_i hc
              obtain ⟨hc1, hc2, hc3⟩ := hc
              cases hb : bytesOf ((blk.cells.drop a.off).take n) with
              | none => simp [hb] at h
              | some bs =>
                simp [hb] at h; obtain ⟨rfl, rfl⟩ := h
                obtain ⟨r, r1, r2, r3, r4⟩ := q3 (by omega)
                obtain ⟨r', b1, b2⟩ := hR.live _ _ hg
                rw [r1] at b1; cases b1
                obtain ⟨ds, d1, d2, d3, _⟩ := loadCells_sound (P := P) b2 hc2
                subst r2
                obtain ⟨ns, n1, n2⟩ := bytesOf_sound hb d2
                subst n2
                refine triv (red _ (bytesToString_run w _ ns n C (by rw [n1] at d3; simpa using d3) (by rw [← n1]; exact d1))) (.str _) rfl
            · cases h
          · cases h
      · cases h
  · rename_i d e s h1 h2
    cases hx
    split at h
    · rename_i i h3 h4
      split at h
      · rename_i hc
        cases h
        have hcp : s.size ≤ grownCap w s.size 0 e := by simp only [grownCap, Question.cut]; omega
        have hsz : (Lib.bytesCells w e s).size = grownCap w s.size 0 e := by
          have : s.data.size = s.size := rfl
          simp only [Lib.bytesCells, Array.size_append, Array.size_map, Array.size_replicate]; omega
        have hG : Grow ρ w nm (some ⟨s.data.toList.map fun b => .int .u8 b.toNat, e, 1⟩) (ρ.upd nm ⟨w.heap.size, 0, (Lib.bytesCells w e s).size, 1⟩) (Lib.bytesWorld w e s) := by
          refine Grow.new hnm ⟨s.data.toList.map fun b => .int .u8 b.toNat, e, 1⟩ (Lib.bytesCells w e s) _ (Lib.bytesWorld_size w e s) (fun B hB => Lib.bytesWorld_at_old w e s B hB)
            (Lib.bytesWorld_at_new w e s) (Or.inr (Nat.le_refl _)) rfl rfl rfl ?_ ?_ (fun h => by cases h)
          · have : s.data.size = s.size := rfl
            simp only [List.length_map, Array.length_toList]; omega
          · intro i hi
            have hi' : i < s.data.size := by simpa using hi
            have : (Lib.bytesCells w e s).getD i undef = (s.data.toList.map fun b => Value.int .u8 b.toNat).getD i undef := by
              rw [getD_list]
              have hi2 : i < s.size := hi'
              simp [Lib.bytesCells, List.getD, List.getElem?_append, hi2]
            rw [this]
            have h5 : s.data[i]? = some s.data[i] := Array.getElem?_eq_getElem hi'
            simp only [List.getD, List.getElem?_map, Array.getElem?_toList, h5, Option.map_some, Option.getD_some]
            exact .int _ _
        refine ⟨_, _, _, Lib.run_convert_string_bytes w src dst e s h1 h2 h3, ?_, hG⟩
        refine .slice hcp (fun h0 => by cases h0) (fun _ => ⟨_, Ren.upd_same _ _ _, rfl, rfl, ?_⟩)
        simp [hsz]
      · cases h
    · cases h
  · cases h
theorem fold_set {ρ : Ren} (off : Nat) : ∀ (xs ys : List Value) (j : Nat) (cs ds : Array Value), LR ρ xs ys → LR ρ cs.toList ds.toList →
    LR ρ ((xs.zipIdx j).foldl (fun cs (p : Value × Nat) => cs.setIfInBounds (off + p.2) p.1) cs).toList ((ys.zipIdx j).foldl (fun cs (p : Value × Nat) => cs.setIfInBounds (off + p.2) p.1) ds).toList
  | [], ys, j, cs, ds, h, k => by rw [LR.nil_inv h]; exact k
  | x :: xs, zs, j, cs, ds, h, k => by
    obtain ⟨y, ys, rfl, h1, h2⟩ := h.cons_inv
    simp only [List.zipIdx_cons, List.foldl_cons]
    refine fold_set off xs ys (j + 1) _ _ h2 ?_
    simpa using LR.set k (off + j) h1
theorem fill_sound {ρ : Ren} (place : Nat → Option (Nat × Nat)) : ∀ (ps : List (Nat × Value)) (qs : List (Nat × Value)) (cs ds out : Array Value),
    ps.map (·.1) = qs.map (·.1) → LR ρ (ps.map (·.2)) (qs.map (·.2)) → LR ρ cs.toList ds.toList → Instr.fill place cs ps = some out →
    ∃ out', Instr.fill place ds qs = some out' ∧ LR ρ out.toList out'.toList
  | [], qs, cs, ds, out, h1, h2, h3, h => by
    cases qs with
    | nil => simp only [Instr.fill, Option.some.injEq] at h; subst h; exact ⟨ds, rfl, h3⟩
    | cons q qs => simp at h1
  | (i, v) :: ps, [], cs, ds, out, h1, h2, h3, h => by simp at h1
  | (i, v) :: ps, (i', v') :: qs, cs, ds, out, h1, h2, h3, h => by
    simp only [List.map_cons, List.cons.injEq] at h1
    obtain ⟨rfl, h1⟩ := h1
    obtain ⟨y, ys, e, hv, hr⟩ := LR.cons_inv (by simpa using h2)
    simp only [List.map_cons, List.cons.injEq] at e
    obtain ⟨rfl, rfl⟩ := e
    simp only [Instr.fill] at h ⊢
    have hc := hv.cells
    have hsz : v.cells.size = v'.cells.size := by have := hc.1; simpa using this
    have hcd : cs.size = ds.size := by have := h3.1; simpa using this
    cases hp : place i with
    | none => simp [hp] at h
    | some p =>
      obtain ⟨off, size⟩ := p
      simp only [hp] at h ⊢
      split at h
      · cases h
      · rename_i hn
        rw [if_neg (by rw [← hsz, ← hcd]; exact hn)]
        refine fill_sound place ps qs _ _ out h1 hr ?_ h
        have := fold_set off v.cells.toList v'.cells.toList 0 cs ds hc h3
        rw [← Array.foldl_toList, ← Array.foldl_toList, Array.toList_zipIdx, Array.toList_zipIdx]
        exact this
theorem built_sound {ρ : Ren} {t : TypeId} {i : TypeInfo} {z : Value} (hi : P.info? t = some i) (hz : i.zero = some z) (hp : plain z = true) {ps qs : List (Nat × Value)} {cs : Array Value}
    (h1 : ps.map (·.1) = qs.map (·.1)) (h2 : LR ρ (ps.map (·.2)) (qs.map (·.2))) (h : P.built t ps = some cs) : ∃ ds, P.built t qs = some ds ∧ LR ρ cs.toList ds.toList := by
  have hzz : LR ρ z.cells.toList z.cells.toList := (VR.plain (ρ := ρ) hp).cells
  unfold Program.built at h ⊢
  simp only [hi] at h ⊢
  cases hu : P.underlying t with
  | none => simp [hu] at h
  | some d =>
    cases d <;> simp only [hu, hz] at h ⊢ <;> (first | cases h | skip)
    case array n e =>
      cases he : P.info? e with
      | none => simp [he] at h
      | some ie =>
        simp only [he] at h ⊢
        exact fill_sound _ ps qs _ _ cs h1 h2 hzz h
    case struct fields =>
      cases hq : fields.toList.mapM (fun f => (P.info? f.type).map fun i => (f.offset, i.size)) with
      | none => simp [hq] at h
      | some places =>
        simp only [hq] at h ⊢
        exact fill_sound _ ps qs _ _ cs h1 h2 hzz h
theorem zerosOf_length (z : List Value) : ∀ n, (zerosOf z n).length = n * z.length
  | 0 => by simp [zerosOf]
  | n + 1 => by simp [zerosOf, zerosOf_length z n, Nat.add_mul, Nat.add_comm]
theorem zerosOf_get (z : List Value) : ∀ (n i : Nat), i < n * z.length → (zerosOf z n)[i]? = z[i % z.length]?
  | 0, i, h => by simp at h
  | n + 1, i, h => by
    simp only [zerosOf, List.getElem?_append]
    split
    · rename_i hi; rw [Nat.mod_eq_of_lt hi]
    · rename_i hi
      have hz : 0 < z.length := by
        rcases Nat.eq_zero_or_pos z.length with e | e
        · rw [e] at h; simp at h
        · exact e
      rw [zerosOf_get z n (i - z.length) (by rw [Nat.add_mul] at h; omega)]
      congr 1
      rw [← Nat.mod_eq_sub_mod (by omega)]
theorem rangeMap_get (zero : Array Value) (n i : Nat) (hi : i < n) (hz : 0 < zero.size) :
    ((Array.range n).map fun j => zero[j % zero.size]!)[i]? = zero[i % zero.size]? := by
  have hm : i % zero.size < zero.size := Nat.mod_lt _ hz
  simp [hi, hm]
theorem rangeMap_eq (zero : Array Value) (n : Nat) (hz : 0 < zero.size) :
    ((Array.range (n * zero.size)).map fun j => zero[j % zero.size]!) = (zerosOf zero.toList n).toArray := by
  apply Array.ext_getElem?
  intro i
  by_cases hi : i < n * zero.size
  · rw [rangeMap_get _ _ _ hi hz]
    have := zerosOf_get zero.toList n i (by simpa using hi)
    simpa using this.symm
  · rw [Array.getElem?_eq_none (by simp; omega), Array.getElem?_eq_none (by simp [zerosOf_length]; omega)]
theorem zerosOf_LR {ρ : Ren} {z : List Value} (h : LR ρ z z) : ∀ n, LR ρ (zerosOf z n) (zerosOf z n)
  | 0 => LR.nil
  | n + 1 => LR.append h (zerosOf_LR h n)
theorem zerosOf_take (z : List Value) (m n : Nat) (h : m ≤ n) : ∀ i, i < m * z.length → (zerosOf z m)[i]? = (zerosOf z n)[i]? := by
  intro i hi
  rw [zerosOf_get _ _ _ hi, zerosOf_get _ _ _ (Nat.lt_of_lt_of_le hi (Nat.mul_le_mul_right _ h))]
theorem minMax_sound {ρ : Ren} (w : World) (mx : Bool) : ∀ (xs ys : List Value) (k : IntKind) (n : Int) (v : Value), minMax mx (.int k n) xs = some v → LR ρ xs ys →
    (ys.foldlM (if mx then Builtin.max2 else Builtin.min2) (.int k n)).run P w = .ok v w ∧ VR ρ v v
  | [], ys, k, n, v, h, hr => by
    rw [LR.nil_inv hr]; simp only [minMax, Option.some.injEq] at h; subst h
    exact ⟨by simp, .int _ _⟩
  | x :: xs, zs, k, n, v, h, hr => by
    obtain ⟨y, ys, rfl, h1, h2⟩ := hr.cons_inv
    cases x with
    | int k' m =>
      cases h1
      simp only [minMax] at h
      obtain ⟨q1, q2⟩ := minMax_sound w mx xs ys _ _ v h h2
      refine ⟨?_, q2⟩
      rw [List.foldlM_cons]
      cases mx <;> simp only [Bool.false_eq_true, if_true, if_false] at q1 ⊢ <;> simp [Builtin.max2, Builtin.min2, q1]
    | _ => simp [minMax] at h
end
open Go.RowKit
section
variable {P : Program}
theorem parts_eval (a : Act) (parts : Array (Nat × Operand)) : (parts.map fun (p : Nat × Operand) => (p.1, a.eval p.2)).toList = parts.toList.map fun p => (p.1, a.eval p.2) := by simp
theorem fill_size (place : Nat → Option (Nat × Nat)) : ∀ (ps : List (Nat × Value)) (cs out : Array Value), Instr.fill place cs ps = some out → out.size = cs.size
  | [], cs, out, h => by simp only [Instr.fill, Option.some.injEq] at h; rw [h]
  | (i, v) :: ps, cs, out, h => by
    simp only [Instr.fill] at h
    split at h
    · cases h
    · split at h
      · cases h
      · rw [fill_size place ps _ _ h]
        have : ∀ (l : List (Value × Nat)) (off : Nat) (cs : Array Value), (l.foldl (fun cs (p : Value × Nat) => cs.setIfInBounds (off + p.2) p.1) cs).size = cs.size := by
          intro l off
          induction l with
          | nil => intro cs; rfl
          | cons p l ih => intro cs; rw [List.foldl_cons, ih]; simp
        rw [← Array.foldl_toList]
        exact this _ _ _
theorem run_buildSlice (w : World) {t e : TypeId} {len : Nat} (parts : Array (Nat × Value)) {i : TypeInfo} {z : Value} {ds : Array Value} (hu : P.underlying t = some (.slice e)) (hi : P.info? e = some i) (hz : i.zero = some z)
    (hzs : z.cells.size = i.size) (hs0 : i.size ≠ 0) (hlen : len * i.size ≤ 16777216) (hf : Instr.fill (fun j => some (j * i.size, i.size)) (zerosOf z.cells.toList len).toArray parts.toList = some ds) :
    (Instr.buildSlice t len parts).run P w = .ok (.slice (some ⟨w.heap.size, 0, none⟩) len len) (w.alloc (.cells ds e)) := by
  have hq : ¬ (16777216 < len * i.size) := by omega
  by_cases h0 : len = 0
  · subst h0
    simp only [zerosOf] at hf
    have h0 : ((Array.range 0).map fun _ => (default : Value)) = #[] := Array.size_eq_zero_iff.1 (by simp)
    simp [Instr.buildSlice, rund w hu, rsize w hi, newRow, h0, hf]
  · have h1 : len * i.size ≠ 0 := Nat.mul_ne_zero h0 hs0
    have hr := rangeMap_eq z.cells len (by omega)
    rw [hzs] at hr
    have hr' : ((Array.range (len * i.size)).map fun j => z.cells[j % i.size]!) = (zerosOf z.cells.toList len).toArray := hr
    simp [Instr.buildSlice, rund w hu, rsize w hi, hq, h0, hs0, rzero w hi hz, newRow, hzs, hr', hf]
    intro h; exact absurd h h1
theorem local_sound {ρ : Ren} {env : Env} {g : Nat → Option Blk} {nm : Nat} {v : Value} {ob : Option Blk} {a : Act} {w : World} {o : Oper}
    (h : evLocal P env g nm o.op = some (v, ob)) (hR : R ρ g w) (hE : ER ρ env a.tmps) (hnm : ρ nm = none) : LOk ρ w nm v ob ((execOp a.eval o).run P w) := by
  obtain ⟨dst, op, type, pos, after, guard⟩ := o
  simp only at h
  cases op <;> simp only [evLocal] at h <;> (first | cases h | skip) <;> simp only [execOp]
  case move x =>
    cases hx : evalO env x with
    | none => simp [hx] at h
    | some vx => simp [hx] at h; obtain ⟨rfl, rfl⟩ := h; exact LOk.pure (evalO_sound hE hx) (by simp)
  case assign x =>
    cases hx : evalO env x with
    | none => simp [hx] at h
    | some vx => simp [hx] at h; obtain ⟨rfl, rfl⟩ := h; exact LOk.pure (evalO_sound hE hx) (by simp)
  case pick c x y =>
    split at h
    · rename_i t va vb h1 h2 h3
      cases h
      have k := evalO_sound hE h1
      cases hc : a.eval c <;> rw [hc] at k <;> cases k
      cases t
      · exact LOk.pure (evalO_sound hE h3) (by simp [asBool])
      · exact LOk.pure (evalO_sound hE h2) (by simp [asBool])
    · cases h
  case alloc e =>
    split at h
    · rename_i i hi
      split at h
      · rename_i z hz
        split at h
        · rename_i hp
          cases h
          have hc := (VR.plain (ρ := ρ) hp).cells
          refine ⟨_, _, _, by simp [Instr.alloc, rzero w hi hz, newVar, newRow]; rfl, ?_, Grow.alloc hnm ⟨z.cells.toList, e, 0⟩ z.cells (by simp) (fun i _ => by rw [getD_list]; exact hc.2 i) (fun _ => by simp)⟩
          exact .ptr ⟨_, Ren.upd_same _ _ _, rfl, rfl⟩
        · cases h
      · cases h
    · cases h
  case box e x =>
    cases hx : evalO env x with
    | none => simp [hx] at h
    | some vx =>
      simp [hx] at h; obtain ⟨rfl, rfl⟩ := h
      have hc := (evalO_sound hE hx).cells
      refine ⟨_, _, _, by simp [Instr.box, newVar, newRow]; rfl, ?_, Grow.alloc hnm ⟨vx.cells.toList, e, 0⟩ (a.eval x).cells (by have := hc.1; simp at this; simp [this]) (fun i _ => by rw [getD_list]; exact hc.2 i) (fun _ => by have := hc.1; simp at this; simp [this])⟩
      exact .ptr ⟨_, Ren.upd_same _ _ _, rfl, rfl⟩
  case build t parts =>
    split at h
    · rename_i ps hps
      split at h
      · rename_i i hi
        split at h
        · rename_i z hz
          split at h
          · rename_i hp
            cases hb : P.built t ps with
            | none => simp [hb] at h
            | some cs =>
              simp [hb] at h; obtain ⟨rfl, rfl⟩ := h
              obtain ⟨q1, q2⟩ := evalPs_sound hE _ _ hps
              obtain ⟨ds, d1, d2⟩ := built_sound hi hz hp (ps := ps) (qs := parts.toList.map fun p => (p.1, a.eval p.2)) (by rw [List.map_map]; exact q1.symm) (by rw [List.map_map]; exact q2) hb
              refine LOk.pure (v' := .agg ds) (.agg (by have := d2.1; simpa using this) fun i => by rw [getD_list, getD_list]; exact d2.2 i) ?_
              have e := run_build (P := P) w t (parts.map fun (p : Nat × Operand) => (p.1, a.eval p.2)) ds (by rw [parts_eval]; exact d1)
              simp only [Sem.run_bind]
              rw [show (parts.map fun (i, x) => (i, a.eval x)) = parts.map fun (p : Nat × Operand) => (p.1, a.eval p.2) from rfl, e]; rfl
          · cases h
        · cases h
      · cases h
    · cases h
  case buildSlice t len parts =>
    split at h
    · rename_i e ps hu hps
      split at h
      · rename_i i hi
        split at h
        · rename_i z hz
          split at h
          · rename_i hp
            obtain ⟨hp, hlen, hzs, hs0⟩ := hp
            cases hb : Instr.fill (fun j => some (j * i.size, i.size)) (zerosOf z.cells.toList len).toArray ps with
            | none => simp [hb] at h
            | some cs =>
              simp [hb] at h; obtain ⟨rfl, rfl⟩ := h
              obtain ⟨q1, q2⟩ := evalPs_sound hE _ _ hps
              have hzz : LR ρ z.cells.toList z.cells.toList := (VR.plain (ρ := ρ) hp).cells
              obtain ⟨ds, d1, d2⟩ := fill_sound (ρ := ρ) (fun j => some (j * i.size, i.size)) ps (parts.toList.map fun p => (p.1, a.eval p.2)) _ _ cs (by rw [List.map_map]; exact q1.symm) (by rw [List.map_map]; exact q2) (by simpa using zerosOf_LR hzz len) hb
              have hsz : cs.size = ds.size := by have := d2.1; simpa using this
              have hrun := run_buildSlice (P := P) w (parts.map fun (p : Nat × Operand) => (p.1, a.eval p.2)) hu hi hz hzs hs0 hlen (by rw [parts_eval]; exact d1)
              refine ⟨.slice (some ⟨w.heap.size, 0, none⟩) len len, _, _, ?_, ?_, Grow.alloc hnm ⟨cs.toList, e, i.size⟩ ds (by simp [hsz]) (fun j _ => by rw [getD_list]; exact d2.2 j) (fun h => absurd h hs0)⟩
              · simp only [Sem.run_bind]
                rw [show (parts.map fun (i, x) => (i, a.eval x)) = parts.map fun (p : Nat × Operand) => (p.1, a.eval p.2) from rfl, hrun]; rfl
              · refine .slice (Nat.le_refl _) (fun h0 => by cases h0) (fun _ => ⟨_, Ren.upd_same _ _ _, rfl, rfl, ?_⟩)
                have := fill_size _ _ _ _ hb
                simp [zerosOf_length, hzs] at this
                simp only [Nat.zero_add, ← hsz, this]; exact Nat.le_refl _
          · cases h
        · cases h
      · cases h
    · cases h
  case load t x =>
    split at h
    · rename_i b hx
      split at h
      · rename_i blk hg
        split at h
        · rename_i hs
          cases hp : partA P t blk.cells b.off with
          | none => simp [hp] at h
          | some vv =>
            simp [hp] at h; obtain ⟨rfl, rfl⟩ := h
            have k := evalO_sound hE hx
            cases hc : a.eval x <;> rw [hc] at k <;> cases k
            rename_i k
            obtain ⟨r, r1, r2, r3⟩ := k
            obtain ⟨r', b1, b2⟩ := hR.live _ _ hg
            rw [r1] at b1; cases b1
            obtain ⟨v', v1, v2⟩ := loadVar_sound (P := P) b2 hp
            subst r2
            exact LOk.pure v2 (by simp [Instr.loadAt, Instr.sureAddr, v1])
        · cases h
      · cases h
    · cases h
  case nilCheck x =>
    split at h
    · rename_i b hx
      cases h
      have k := evalO_sound hE hx
      cases hc : a.eval x <;> rw [hc] at k <;> cases k
      rename_i k
      exact LOk.pure (.ptr k) (by simp)
    · rename_i f xs ys hx
      cases h
      have k := evalO_sound hE hx
      generalize a.eval x = y at k ⊢
      cases k with
      | func _ k1 k2 k3 k4 => exact LOk.pure (.func _ k1 k2 k3 k4) (by simp)
    · cases h
  case binOp op t x y yt =>
    split at h
    · rename_i vx vy hx hy
      cases hb : evBin P op t vx vy with
      | none => simp [hb] at h
      | some vv =>
        simp [hb] at h; obtain ⟨rfl, rfl⟩ := h
        obtain ⟨v', v1, v2⟩ := evBin_sound w hb (evalO_sound hE hx) (evalO_sound hE hy) x y
        exact LOk.pure v2 (by simp only [Sem.run_bind] at v1 ⊢; rw [v1]; rfl)
    · cases h
  case unOp op t x =>
    split at h
    · rename_i vx hx
      cases hb : evUn op vx with
      | none => simp [hb] at h
      | some vv =>
        simp [hb] at h; obtain ⟨rfl, rfl⟩ := h
        obtain ⟨v', v1, v2⟩ := evUn_sound (P := P) w hb (evalO_sound hE hx)
        exact LOk.pure v2 (by simp [v1])
    · cases h
  case convert src dst x =>
    split at h
    · rename_i vx hx
      obtain ⟨v', w', ρ', v1, v2, v3⟩ := evConv_sound w hR hnm h (evalO_sound hE hx)
      exact ⟨v', w', ρ', by simp [v1], v2, v3⟩
    · cases h
  case makeInterface t x =>
    split at h
    · cases h
    · rename_i d vx hd hn hx
      cases h
      refine LOk.pure (.iface t (evalO_sound hE hx)) ?_
      cases d <;> first | (exact (hd _ rfl).elim) | (simp [Instr.makeInterface, rund w hn]; done)
    · cases h
  case makeFunc fn first captured =>
    split at h
    · rename_i f c h1 h2
      cases h
      have k1 := evalOs_sound hE _ _ h1
      have k2 := evalOs_sound hE _ _ h2
      refine LOk.pure (v' := .func fn (first.map a.eval) (captured.map a.eval)) ?_ (by simp [Instr.makeFunc])
      refine .func fn ?_ ?_ ?_ ?_
      · have := k1.1; simpa using this
      · have := k2.1; simpa using this
      · intro i; rw [getD_list, getD_list]; simpa using k1.2 i
      · intro i; rw [getD_list, getD_list]; simpa using k2.2 i
    · cases h
  case makeSlice t l c =>
    split at h
    · rename_i e kl li kc ci hu hl hc
      split at h
      · rename_i i hi
        split at h
        · rename_i z hz
          split at h
          · rename_i hp
            obtain ⟨hp, h0, hlc, hb, hm, hzs, hs0⟩ := hp
            cases h
            have kl' := evalO_sound hE hl
            have kc' := evalO_sound hE hc
            cases hel : a.eval l <;> rw [hel] at kl' <;> cases kl'
            cases hec : a.eval c <;> rw [hec] at kc' <;> cases kc'
            obtain ⟨ln, rfl⟩ := Int.eq_ofNat_of_zero_le h0
            obtain ⟨cn, rfl⟩ := Int.eq_ofNat_of_zero_le (Int.le_trans h0 hlc)
            have wl : IntKind.i64.wrap (ln : Int) = ln := by simp [IntKind.wrap, IntKind.signed, IntKind.bits]; omega
            have wc : IntKind.i64.wrap (cn : Int) = cn := by simp [IntKind.wrap, IntKind.signed, IntKind.bits]; omega
            have hrow : ((Array.range (cn * i.size)).map fun j => z.cells[j % i.size]!) = (zerosOf z.cells.toList cn).toArray := by
              have := rangeMap_eq z.cells cn (by omega)
              rw [hzs] at this; exact this
            have hbn : ¬ (2 ^ 48 < (i.bytes : Int) * (cn : Int)) := by rw [Int.mul_comm]; omega
            have hbn' : ¬ (281474976710656 < (i.bytes : Int) * (cn : Int)) := by rw [Int.mul_comm]; omega
            have hrun : (Instr.makeSlice t (.int kl (ln : Int)) (.int kc (cn : Int))).run P w = .ok (.slice (some ⟨w.heap.size, 0, none⟩) ln cn) (w.alloc (.cells (zerosOf z.cells.toList cn).toArray e)) := by
              by_cases hc0 : cn = 0
              · subst hc0
                have : ln = 0 := by omega
                subst this
                have w0 : IntKind.i64.wrap 0 = 0 := rfl
                have r0 : ((Array.range 0).map fun _ => (default : Value)) = #[] := Array.size_eq_zero_iff.1 (by simp)
                simp [Instr.makeSlice, rund w hu, asInt, asIntOf, rinfo w hi, w0, rsize w hi, newRow, zerosOf, r0]
              · have hln : ¬ ((cn : Int) < (ln : Int)) := by omega
                have hln' : ¬ (cn < ln) := by omega
                have n1 : ¬ ((ln : Int) < 0) := by omega
                have n2 : ¬ ((cn : Int) < 0) := by omega
                simp [Instr.makeSlice, rund w hu, asInt, asIntOf, rinfo w hi, wl, wc, hbn', hln, hln', n1, n2, rsize w hi, hc0, hs0, rzero w hi hz, newRow, hzs, hrow]
                intro h; exact absurd h (Nat.mul_ne_zero hc0 hs0)
            have hzz : LR ρ z.cells.toList z.cells.toList := (VR.plain (ρ := ρ) hp).cells
            have hlen : ln * i.size ≤ cn * i.size := Nat.mul_le_mul_right _ (by omega)
            refine ⟨_, _, _, by simp only [hel, hec, Sem.run_bind, hrun]; rfl, ?_, Grow.alloc hnm ⟨zerosOf z.cells.toList ln, e, i.size⟩ (zerosOf z.cells.toList cn).toArray ?_ ?_ (fun h => absurd h hs0)⟩
            · refine .slice (by omega) (fun h0 => by cases h0) (fun _ => ⟨_, Ren.upd_same _ _ _, rfl, rfl, ?_⟩)
              simp [zerosOf_length, hzs]
            · simp [zerosOf_length, hzs, hlen]
            · intro j hj
              have hj' : j < ln * z.cells.toList.length := by simpa [zerosOf_length] using hj
              rw [getD_list]
              have e1 := zerosOf_take z.cells.toList ln cn (by omega) j hj'
              simp only [List.getD, ← e1]
              exact (zerosOf_LR hzz ln).2 j
          · cases h
        · cases h
      · cases h
    · cases h
  case slice t x lo hi mx =>
    split at h
    · rename_i vx hx
      cases hb : evSlice P env g t vx lo hi mx with
      | none => simp [hb] at h
      | some vv =>
        simp [hb] at h; obtain ⟨rfl, rfl⟩ := h
        obtain ⟨v', v1, v2⟩ := evSlice_sound (P := P) w hR hE hb (evalO_sound hE hx)
        exact LOk.pure v2 (by simp [v1])
    · cases h
  case fieldAddr s x f =>
    split at h
    · rename_i fields b hu hx
      split at h
      · rename_i fl hf
        split at h
        · rename_i i hi
          split at h
          · rename_i hc
            cases h
            have k := evalO_sound hE hx
            cases he : a.eval x <;> rw [he] at k <;> cases k
            rename_i k
            exact LOk.pure (.ptr (k.add _)) (by simp [Instr.fieldAt, rund w hu, hf, Instr.sureAddr, fieldPlace, rsize w hi, hc.1])
          · cases h
        · cases h
      · cases h
    · cases h
  case field t x f =>
    split at h
    · rename_i fields cs hu hx
      split at h
      · rename_i fl hf
        cases hp : partA P fl.type cs.toList fl.offset with
        | none => simp [hp] at h
        | some vv =>
          simp [hp] at h; obtain ⟨rfl, rfl⟩ := h
          have k := evalO_sound hE hx
          cases he : a.eval x <;> rw [he] at k <;> cases k
          rename_i k1 k2
          obtain ⟨v', v1, v2⟩ := part_sound (P := P) w hp (LR.of_agg k1 k2)
          exact LOk.pure v2 (by simp [Instr.field, rund w hu, hf, asAgg, v1])
      · cases h
    · cases h
  case indexAddr t x ix =>
    split at h
    · rename_i vx vi hx hi
      cases hb : evIndexAddr P t vx vi with
      | none => simp [hb] at h
      | some vv =>
        simp [hb] at h; obtain ⟨rfl, rfl⟩ := h
        obtain ⟨v', v1, v2⟩ := evIndexAddr_sound (P := P) w hb (evalO_sound hE hx) (evalO_sound hE hi)
        exact LOk.pure v2 (by simp [v1])
    · cases h
  case index t x ix =>
    split at h
    · rename_i vx vi hx hi
      cases hb : evIndex P t vx vi with
      | none => simp [hb] at h
      | some vv =>
        simp [hb] at h; obtain ⟨rfl, rfl⟩ := h
        obtain ⟨v', v1, v2⟩ := evIndex_sound (P := P) w hb (evalO_sound hE hx) (evalO_sound hE hi)
        exact LOk.pure v2 (by simp [v1])
    · cases h
  case extract x i =>
    split at h
    · rename_i vs hx
      cases hv : vs[i]? with
      | none => simp [hv] at h
      | some vv =>
        simp [hv] at h; obtain ⟨rfl, rfl⟩ := h
        have k := evalO_sound hE hx
        cases he : a.eval x <;> rw [he] at k
        all_goals first | (cases k; done) | skip
        have hk : LR ρ vs.toList (Array.toList ‹_›) := by
          cases k with
          | unit => exact LR.nil
          | tuple k1 k2 => exact LR.of_agg k1 k2
        obtain ⟨y, y1, y2⟩ := hk.get? (i := i) (x := vv) (by simpa using hv)
        refine LOk.pure y2 ?_
        have y1' : (‹Array Value› : Array Value)[i]? = some y := by simpa using y1
        simp [Instr.extract, y1']
    · cases h
  case call c =>
    have args_run : ∀ b : Builtin, c.callee = .builtin b → ((do let d ← resolve a.eval c type; invoke d.target d.args : Sem Next).run P w) =
        (builtin b c.argTypes type (c.args.map fun | .const _ => true | _ => false) (c.args.map a.eval)).run P w := by
      intro b hb
      simp only [resolve, hb, Sem.run_bind, Sem.run_pure, Result.andThen_ok, invoke]
      rfl
    split at h
    · rename_i hcal
      split at h
      · rename_i s h1 h2
        cases h
        cases ht : c.argTypes[0]? with
        | none => simp [ht] at h1
        | some t =>
          cases ha : c.args[0]? with
          | none => simp [ha] at h2
          | some x =>
            simp only [ht, ha, Option.bind_some] at h1 h2
            have k := evalO_sound hE h2
            have e : (c.args.map a.eval)[0]? = some (a.eval x) := by simp [ha]
            generalize a.eval x = y at k e
            cases k
            refine LOk.pure (.int _ _) ?_
            rw [args_run _ hcal]
            simp only [builtin, Builtin.len_, ht, e]
            simp [rund w h1, goInt]
      · rename_i t n cc h1 h2
        cases h
        cases ht : c.argTypes[0]? with
        | none => simp [ht] at h1
        | some t =>
          cases ha : c.args[0]? with
          | none => simp [ha] at h2
          | some x =>
            simp only [ht, ha, Option.bind_some] at h1 h2
            have k := evalO_sound hE h2
            have e : (c.args.map a.eval)[0]? = some (a.eval x) := by simp [ha]
            generalize a.eval x = y at k e
            cases k <;> (refine LOk.pure (.int _ _) ?_; rw [args_run _ hcal]; simp only [builtin, Builtin.len_, ht, e]; simp [rund w h1, goInt])
      · rename_i n t vx h1 h2
        cases h
        cases ht : c.argTypes[0]? with
        | none => simp [ht] at h1
        | some t =>
          cases ha : c.args[0]? with
          | none => simp [ha] at h2
          | some x =>
            simp only [ht, ha, Option.bind_some] at h1 h2
            have e : (c.args.map a.eval)[0]? = some (a.eval x) := by simp [ha]
            refine LOk.pure (.int _ _) ?_
            rw [args_run _ hcal]
            simp only [builtin, Builtin.len_, ht, e]
            simp [rund w h1, goInt]
      · cases h
    · rename_i hcal
      split at h
      · rename_i k n r h1
        cases hm : minMax true (.int k n) r with
        | none => simp [hm] at h
        | some vv =>
          simp [hm] at h; obtain ⟨rfl, rfl⟩ := h
          have k1 := evalOs_sound hE _ _ h1
          obtain ⟨y, ys, e, e1, e2⟩ := k1.cons_inv
          cases e1
          obtain ⟨q1, q2⟩ := minMax_sound (P := P) w true r ys k n _ hm e2
          refine LOk.pure q2 ?_
          rw [args_run _ hcal]
          simp only [if_true] at q1
          have e' : (c.args.map a.eval).toList = .int k n :: ys := by simpa using e
          simp only [builtin, Builtin.max_, e', Sem.run_bind, q1]; rfl
      · cases h
    · rename_i hcal
      split at h
      · rename_i k n r h1
        cases hm : minMax false (.int k n) r with
        | none => simp [hm] at h
        | some vv =>
          simp [hm] at h; obtain ⟨rfl, rfl⟩ := h
          have k1 := evalOs_sound hE _ _ h1
          obtain ⟨y, ys, e, e1, e2⟩ := k1.cons_inv
          cases e1
          obtain ⟨q1, q2⟩ := minMax_sound (P := P) w false r ys k n _ hm e2
          refine LOk.pure q2 ?_
          rw [args_run _ hcal]
          simp only [Bool.false_eq_true, if_false] at q1
          have e' : (c.args.map a.eval).toList = .int k n :: ys := by simpa using e
          simp only [builtin, Builtin.min_, e', Sem.run_bind, q1]; rfl
      · cases h
    · cases h
end
open Go.RowKit
section
variable {P : Program}
def foot (ρ : Ren) (g : Nat → Option Blk) (B : Nat) : Prop := ∃ b blk r, g b = some blk ∧ ρ b = some r ∧ r.B = B
structure Step (ρ : Ren) (g : Nat → Option Blk) (w : World) (ρ' : Ren) (g' : Nat → Option Blk) (w' : World) (N : Nat → Prop) : Prop where
  le : ρ.le ρ'
  same : Same w w'
  rel : R ρ' g' w'
  old : ∀ B, B < w.heap.size → ¬ foot ρ g B → w'.heap[B]? = w.heap[B]?
  foot : ∀ B, foot ρ' g' B → foot ρ g B ∨ w.heap.size ≤ B
  names : ∀ b, ¬ N b → ρ' b = ρ b
  dom : ∀ b blk, g' b = some blk → N b ∨ ∃ x, g b = some x
theorem Step.refl {ρ : Ren} {g : Nat → Option Blk} {w : World} (h : R ρ g w) (N : Nat → Prop) : Step ρ g w ρ g w N :=
  ⟨Ren.le_refl _, Same.refl _, h, fun _ _ _ => rfl, fun _ h => Or.inl h, fun _ _ => rfl, fun b blk h => Or.inr ⟨blk, h⟩⟩
theorem Step.trans {ρ₁ ρ₂ ρ₃ : Ren} {g₁ g₂ g₃ : Nat → Option Blk} {w₁ w₂ w₃ : World} {N M L : Nat → Prop} (h : Step ρ₁ g₁ w₁ ρ₂ g₂ w₂ N) (k : Step ρ₂ g₂ w₂ ρ₃ g₃ w₃ M)
    (hN : ∀ b, N b → L b) (hM : ∀ b, M b → L b) : Step ρ₁ g₁ w₁ ρ₃ g₃ w₃ L := by
  refine ⟨Ren.le_trans h.le k.le, h.same.trans k.same, k.rel, ?_, ?_, ?_, ?_⟩
  · intro B hB hf
    rw [k.old B (Nat.lt_of_lt_of_le hB h.same.size) (fun q => (h.foot B q).elim hf (fun q => by omega)), h.old B hB hf]
  · intro B q
    rcases k.foot B q with q | q
    · exact h.foot B q
    · exact Or.inr (Nat.le_trans h.same.size q)
  · intro b hb
    rw [k.names b (fun q => hb (hM b q)), h.names b (fun q => hb (hN b q))]
  · intro b blk q
    rcases k.dom b blk q with q | ⟨x, q⟩
    · exact Or.inl (hM b q)
    · rcases h.dom b x q with q | q
      · exact Or.inl (hN b q)
      · exact Or.inr q
theorem Step.imp {ρ ρ' : Ren} {g g' : Nat → Option Blk} {w w' : World} {N M : Nat → Prop} (h : Step ρ g w ρ' g' w' N) (k : ∀ b, N b → M b) : Step ρ g w ρ' g' w' M :=
  ⟨h.le, h.same, h.rel, h.old, h.foot, fun b hb => h.names b (fun q => hb (k b q)), fun b blk q => (h.dom b blk q).imp (k b) id⟩
theorem Step.ext {ρ ρ' : Ren} {g g' g₂ g₂' : Nat → Option Blk} {w w' : World} {N : Nat → Prop} (h : Step ρ g w ρ' g' w' N) (e : ∀ b, g b = g₂ b) (e' : ∀ b, g' b = g₂' b) : Step ρ g₂ w ρ' g₂' w' N := by
  have h1 : g = g₂ := funext e
  have h2 : g' = g₂' := funext e'
  subst h1 h2; exact h
theorem R.foot_lt {ρ : Ren} {g : Nat → Option Blk} {w : World} (h : R ρ g w) {B : Nat} (k : AE.foot ρ g B) : B < w.heap.size := by
  obtain ⟨b, blk, r, h1, h2, h3⟩ := k; rw [← h3]; exact h.lt _ _ h2
theorem Step.grow {ρ ρ' : Ren} {g : Nat → Option Blk} {w w' : World} {nm : Nat} {ob : Option Blk} (h : R ρ g w) (hnm : g nm = none) (k : Grow ρ w nm ob ρ' w') : Step ρ g w ρ' (gput g nm ob) w' (· = nm) := by
  refine ⟨k.le, k.same, h.grow hnm k, fun B hB _ => k.old B hB, ?_, fun b hb => k.other b hb, ?_⟩
  · rintro B ⟨b, blk, r, h1, h2, rfl⟩
    by_cases e : b = nm
    · subst e
      cases ob with
      | none => rw [show gput g b none = g from rfl, hnm] at h1; cases h1
      | some x => obtain ⟨r', q1, q2, _⟩ := k.some_ x rfl; rw [h2] at q1; cases q1; exact Or.inr q2
    · have hg : g b = some blk := by
        cases ob with
        | none => exact h1
        | some x => simpa [gput, e] using h1
      rw [k.other b e] at h2
      exact Or.inl ⟨b, blk, r, hg, h2, rfl⟩
  · intro b blk hb
    by_cases e : b = nm
    · exact Or.inl e
    · refine Or.inr ⟨blk, ?_⟩
      cases ob with
      | none => exact hb
      | some x => simpa [gput, e] using hb
def setArr (cs : Array Value) (o : Nat) : List Value → Array Value
  | [] => cs
  | v :: r => setArr (cs.setIfInBounds o v) (o + 1) r
theorem setArr_size : ∀ (vs : List Value) (cs : Array Value) (o : Nat), (setArr cs o vs).size = cs.size
  | [], _, _ => rfl
  | v :: r, cs, o => by rw [setArr, setArr_size r]; simp
theorem setArr_get : ∀ (vs : List Value) (cs : Array Value) (o i : Nat), o + vs.length ≤ cs.size →
    (setArr cs o vs).getD i undef = if o ≤ i ∧ i < o + vs.length then vs.getD (i - o) undef else cs.getD i undef
  | [], cs, o, i, h => by simp [setArr]; intro _ _; omega
  | v :: r, cs, o, i, h => by
    simp only [List.length_cons] at h
    rw [setArr, setArr_get r _ _ _ (by simp; omega)]
    have e : (cs.setIfInBounds o v).getD i undef = if i = o then v else cs.getD i undef := by
      simp only [Array.getD_eq_getD_getElem?, Array.getElem?_setIfInBounds]
      by_cases q : o = i
      · subst q; simp [show o < cs.size by omega]
      · simp [q, Ne.symm q]
    rw [e]
    by_cases q : i = o
    · subst q
      rw [if_neg (by omega), if_pos rfl, if_pos (by simp)]; simp
    · by_cases q2 : o + 1 ≤ i ∧ i < o + 1 + r.length
      · rw [if_pos q2, if_pos (by simp only [List.length_cons]; omega)]
        obtain ⟨d, rfl⟩ : ∃ d, i = o + 1 + d := ⟨i - (o + 1), by omega⟩
        rw [show o + 1 + d - (o + 1) = d from by omega, show o + 1 + d - o = d + 1 from by omega]; simp
      · rw [if_neg q2, if_neg q, if_neg (by simp only [List.length_cons]; omega)]
theorem setCells_length : ∀ (vs cs : List Value) (o : Nat), (setCells cs o vs).length = cs.length
  | [], _, _ => rfl
  | v :: r, cs, o => by rw [setCells, setCells_length r]; simp
theorem setCells_get : ∀ (vs cs : List Value) (o i : Nat), o + vs.length ≤ cs.length →
    (setCells cs o vs).getD i undef = if o ≤ i ∧ i < o + vs.length then vs.getD (i - o) undef else cs.getD i undef
  | [], cs, o, i, h => by simp [setCells]; intro _ _; omega
  | v :: r, cs, o, i, h => by
    simp only [List.length_cons] at h
    rw [setCells, setCells_get r _ _ _ (by simp; omega)]
    have e : (cs.set o v).getD i undef = if i = o then v else cs.getD i undef := by
      simp only [List.getD, List.getElem?_set]
      by_cases q : o = i
      · subst q; simp [show o < cs.length by omega]
      · simp [q, Ne.symm q]
    rw [e]
    by_cases q : i = o
    · subst q
      rw [if_neg (by omega), if_pos rfl, if_pos (by simp)]; simp
    · by_cases q2 : o + 1 ≤ i ∧ i < o + 1 + r.length
      · rw [if_pos q2, if_pos (by simp only [List.length_cons]; omega)]
        obtain ⟨d, rfl⟩ : ∃ d, i = o + 1 + d := ⟨i - (o + 1), by omega⟩
        rw [show o + 1 + d - (o + 1) = d from by omega, show o + 1 + d - o = d + 1 from by omega]; simp
      · rw [if_neg q2, if_neg q, if_neg (by simp only [List.length_cons]; omega)]
theorem run_storeCells (B o : Nat) (elem : TypeId) (fz : Nat × Nat) : ∀ (vs : List Value) (i : Nat) (w : World) (cs : Array Value), w.heap[B]? = some (.cells cs elem fz) → o + i + vs.length ≤ cs.size →
    (fz.2 ≤ fz.1 ∨ cs.size ≤ fz.1) → (∀ v ∈ vs, v.oneCell' = true) →
    ∃ w', (storeCells ⟨B, o, none⟩ vs i).run P w = .ok () w' ∧ w'.heap[B]? = some (.cells (setArr cs (o + i) vs) elem fz) ∧ w'.heap.size = w.heap.size ∧ (∀ b, b ≠ B → w'.heap[b]? = w.heap[b]?) ∧
      w'.os = w.os ∧ w'.tape = w.tape ∧ w'.output = w.output
  | [], i, w, cs, h, _, _, _ => ⟨w, rfl, h, rfl, fun _ _ => rfl, rfl, rfl, rfl⟩
  | v :: r, i, w, cs, h, hl, hf, hv => by
    simp only [List.length_cons] at hl
    have hlt : o + i < cs.size := by omega
    have hcell : w.cell? ⟨B, o + i, none⟩ = some cs[o + i] := by simp [World.cell?, h, hlt]
    have hfro : w.frozen? ⟨B, o + i, none⟩ = false := by
      simp only [World.frozen?, h]
      obtain ⟨lo, hi⟩ := fz
      simp only at hf
      simp; omega
    have h1 : (w.setCell ⟨B, o + i, none⟩ v).heap[B]? = some (.cells (cs.setIfInBounds (o + i) v) elem fz) := by
      simp [World.setCell, Array.getElem?_modify, h]
    obtain ⟨w', q1, q2, q3, q4, q5, q6, q7⟩ := run_storeCells B o elem fz r (i + 1) (w.setCell ⟨B, o + i, none⟩ v) (cs.setIfInBounds (o + i) v) h1 (by simp; omega) (by simpa using hf) (fun v hv' => hv v (List.mem_cons_of_mem _ hv'))
    refine ⟨w', ?_, by rw [q2, setArr, Nat.add_assoc], by rw [q3]; simp, ?_, q5, q6, q7⟩
    · simp only [storeCells, Sem.run_bind, add_none]
      rw [run_store P w _ v _ (hv v (List.mem_cons_self ..)), hcell]
      simp only [hfro, Bool.false_eq_true, if_false, Result.andThen_ok, q1]
    · intro b hb
      rw [q4 b hb, Below.heap_setCell _ _ _ _ hb]
theorem Step.write {ρ : Ren} {g : Nat → Option Blk} {w w' : World} (hR : R ρ g w) {b : Nat} {blk blk' : Blk} {r : RB} (hg : g b = some blk) (hr : ρ b = some r) (hB : BR ρ w' r blk')
    (hsz : w'.heap.size = w.heap.size) (hoth : ∀ c, c ≠ r.B → w'.heap[c]? = w.heap[c]?) (hos : w'.os = w.os) (htape : w'.tape = w.tape) (hout : w'.output = w.output) (N : Nat → Prop) :
    Step ρ g w ρ (fun x => if x = b then some blk' else g x) w' N := by
  have dom : ∀ x y, (if x = b then some blk' else g x) = some y → ∃ z, g x = some z := by
    intro x y h
    by_cases e : x = b
    · subst e; exact ⟨_, hg⟩
    · rw [if_neg e] at h; exact ⟨_, h⟩
  refine ⟨Ren.le_refl _, ⟨hos, htape, hout, by omega⟩, ⟨?_, ?_, fun x r' h => by rw [hsz]; exact hR.lt x r' h⟩, ?_, ?_, fun _ _ => rfl, fun x y h => Or.inr (dom x y h)⟩
  · intro x y h
    by_cases e : x = b
    · subst e; rw [if_pos rfl] at h; cases h; exact ⟨r, hr, hB⟩
    · rw [if_neg e] at h
      obtain ⟨r', h1, h2⟩ := hR.live x y h
      refine ⟨r', h1, h2.mono (Ren.le_refl _) (hoth _ ?_)⟩
      intro q; exact e (hR.inj _ _ _ _ _ _ h hg h1 hr q)
  · intro b₁ b₂ x₁ x₂ r₁ r₂ g1 g2 e1 e2 eB
    obtain ⟨z1, h1⟩ := dom _ _ g1
    obtain ⟨z2, h2⟩ := dom _ _ g2
    exact hR.inj _ _ _ _ _ _ h1 h2 e1 e2 eB
  · intro B hB' hf
    refine hoth B ?_
    rintro rfl; exact hf ⟨b, blk, r, hg, hr, rfl⟩
  · rintro B ⟨x, y, r', h1, h2, h3⟩
    obtain ⟨z, hz⟩ := dom _ _ h1
    exact Or.inl ⟨x, z, r', hz, h2, h3⟩
theorem mem_oneCell {ρ : Ren} {xs ys : List Value} (h : LR ρ xs ys) (k : xs.all AE.oneCell = true) : ∀ v ∈ ys, v.oneCell' = true := by
  intro v hv
  obtain ⟨i, hi, rfl⟩ := List.getElem_of_mem hv
  have hi' : i < xs.length := by rw [h.1]; exact hi
  have := h.2 i
  simp only [List.getD, List.getElem?_eq_getElem hi, List.getElem?_eq_getElem hi', Option.getD_some] at this
  exact this.oneCell (List.all_eq_true.1 k _ (List.getElem_mem hi'))
theorem store_sound {ρ : Ren} {g : Nat → Option Blk} {w : World} (hR : R ρ g w) {b off : Nat} {blk : Blk} {r : RB} (hg : g b = some blk) (hr : ρ b = some r) {vs vs' : List Value}
    (hl : off + vs.length ≤ blk.cells.length) (hv : LR ρ vs vs') (h1 : vs.all AE.oneCell = true) (N : Nat → Prop) :
    ∃ w', (storeCells ⟨r.B, r.δ + off, none⟩ vs' 0).run P w = .ok () w' ∧ Step ρ g w ρ (fun x => if x = b then some { blk with cells := setCells blk.cells off vs } else g x) w' N := by
  obtain ⟨r', e1, e2⟩ := hR.live _ _ hg
  rw [hr] at e1; cases e1
  obtain ⟨es, cs, fz, k1, k2, k3, k4, k5⟩ := e2
  have hlen := hv.1
  obtain ⟨w', q1, q2, q3, q4, q5, q6, q7⟩ := run_storeCells (P := P) r.B (r.δ + off) blk.elem fz vs' 0 w cs k1 (by omega) (by rw [k2]; exact k3) (mem_oneCell hv h1)
  refine ⟨w', q1, Step.write (blk' := { blk with cells := setCells blk.cells off vs }) hR hg hr ⟨⟨es.1, fun h => by simp only [setCells_length]; exact es.2 h⟩, _, fz, q2, by rw [setArr_size, k2], k3, by simpa [setCells_length] using k4, ?_⟩ q3 q4 q5 q6 q7 N⟩
  intro i hi
  simp only [setCells_length] at hi
  rw [setCells_get _ _ _ _ hl, setArr_get _ _ _ _ (by omega)]
  by_cases q : off ≤ i ∧ i < off + vs.length
  · rw [if_pos q, if_pos (by omega), show r.δ + i - (r.δ + off + 0) = i - off from by omega]; exact hv.2 _
  · rw [if_neg q, if_neg (by omega)]; exact k5 i hi
theorem src_sound {ρ : Ren} {s : St} {w : World} (hR : R ρ s.heap.get w) {ty : Option TypeId} {y y' : Value} {size m : Nat} {new : List Value} (h : srcCells P ty s.heap y size = some (m, new)) (hy : VR ρ y y') :
    ∃ new' : List Value, LR ρ new new' ∧ new.length = m * size ∧ new.all AE.oneCell = true ∧ (∀ w2, (Builtin.lenOf y').run P w2 = .ok m w2) ∧
      (∀ w2 : World, w2.heap = w.heap → ∀ k, k ≤ m → (Builtin.firstCells size k y').run P w2 = .ok (new'.take (k * size)).toArray w2) ∧
      (∃ xt d, ty = some xt ∧ P.underlying xt = some d ∧ ((∃ e, d = .slice e) ∨ d = .string)) := by
  have cellEq : ∀ w2 : World, w2.heap = w.heap → ∀ a, w2.cell? a = w.cell? a := by intro w2 h2 a; simp [World.cell?, h2]
  unfold srcCells at h
  split at h
  · split at h
    · rename_i e hu
      cases h; cases hy
      cases ty with
      | none => simp at hu
      | some xt => exact ⟨[], LR.nil, by simp, rfl, fun _ => rfl, fun w2 _ k hk => by simp [Builtin.firstCells], xt, _, rfl, by simpa using hu, Or.inl ⟨_, rfl⟩⟩
    · cases h
  · rename_i a n c
    split at h
    · rename_i e hu
      obtain ⟨xt, rfl, hu⟩ : ∃ xt, ty = some xt ∧ P.underlying xt = some (.slice e) := by
        cases ty with
        | none => simp at hu
        | some xt => exact ⟨xt, rfl, by simpa using hu⟩
      cases hy with
      | slice q1 q2 q3 =>
        rename_i A C
        split at h
        · rename_i blk hg
          split at h
          · rename_i hc
            cases h
            obtain ⟨c1, c2, c3, c4⟩ := hc
            have hlen : ((blk.cells.drop a.off).take (m * size)).length = m * size := by simp; omega
            by_cases hn : m = 0
            · subst hn
              refine ⟨[], by simpa using LR.nil, by simp, by simp, fun _ => rfl, ?_, xt, _, rfl, hu, Or.inl ⟨_, rfl⟩⟩
              intro w2 _ k hk
              have : k = 0 := by omega
              subst this
              simp [Builtin.firstCells, loadCells, loadCellsFrom]
            · obtain ⟨r, r1, r2, r3, r4⟩ := q3 (by omega)
              obtain ⟨r', b1, b2⟩ := hR.live _ _ hg
              rw [r1] at b1; cases b1
              obtain ⟨ds, d1, d2, d3, d4⟩ := loadCells_sound (P := P) b2 c2
              subst r2
              refine ⟨ds, d2, hlen, c4, fun _ => rfl, ?_, xt, _, rfl, hu, Or.inl ⟨_, rfl⟩⟩
              intro w2 h2 k hk
              have hkl : k * size ≤ m * size := Nat.mul_le_mul_right _ hk
              have hl : (ds.take (k * size)).length = k * size := by rw [List.length_take, d3]; omega
              have := run_loadCells_list (P := P) w2 ⟨r.B, r.δ + a.off, none⟩ (ds.take (k * size)) (fun j v hj => by
                rw [cellEq w2 h2]
                apply d4
                simp only [List.getElem?_take] at hj
                split at hj
                · exact hj
                · cases hj)
              rw [hl] at this
              simpa [Builtin.firstCells] using this
          · cases h
        · split at h
          · rename_i hn; subst hn; cases h
            refine ⟨[], LR.nil, by simp, rfl, fun _ => rfl, ?_, xt, _, rfl, hu, Or.inl ⟨_, rfl⟩⟩
            intro w2 _ k hk
            have : k = 0 := by omega
            subst this
            simp [Builtin.firstCells, loadCells, loadCellsFrom]
          · cases h
    · cases h
  · rename_i b
    split at h
    · rename_i hu
      obtain ⟨xt, rfl, hu⟩ : ∃ xt, ty = some xt ∧ P.underlying xt = some .string := by
        cases ty with
        | none => simp at hu
        | some xt => exact ⟨xt, rfl, by simpa using hu⟩
      split at h
      · rename_i hs
        cases h; cases hy
        subst hs
        have all1 : ∀ l : List UInt8, (l.map fun b => Value.int .u8 b.toNat).all AE.oneCell = true := by intro l; simp [AE.oneCell]
        refine ⟨_, LR.plain ?_, ?_, all1 _, fun _ => rfl, ?_, xt, _, rfl, hu, Or.inr rfl⟩
        · rw [List.all_map]; exact List.all_eq_true.2 fun _ _ => rfl
        · simp
        · intro w2 _ k hk
          simp only [Builtin.firstCells, Sem.run_pure, Nat.mul_one]
          congr 1
          apply Array.ext'
          simp [List.map_take]
      · cases h
    · cases h
  · cases h
theorem run_append_room {w : World} {tx ty e : TypeId} {d : TypeDesc} {i : TypeInfo} (hu : P.underlying tx = some (.slice e)) (hi : P.info? e = some i) (hd : P.underlying ty = some d) (hdi : (∃ e, d = .slice e) ∨ d = .string)
    {base : Option Addr} {n C m : Nat} {y' : Value} {new : List Value} (hlen : ∀ w2, (Builtin.lenOf y').run P w2 = .ok m w2) (hnew : (Builtin.firstCells i.size m y').run P w = .ok new.toArray w) (hroom : n + m ≤ C) (rest : Array TypeId) (t : TypeId)
    (h0 : rest[0]? = some tx) (h1 : rest[1]? = some ty) :
    (Builtin.append_ rest t #[.slice base n C, y']).run P w =
      (match base with
        | some a => ((storeCells (a.add (n * i.size)) new).run P w).andThen fun _ w' => .ok (.slice base (n + m) C) w'
        | none => .ok (.slice none (n + m) C) w) := by
  unfold Builtin.append_
  have a0 : (#[Value.slice base n C, y'] : Array Value)[0]? = some (.slice base n C) := rfl
  have a1 : (#[Value.slice base n C, y'] : Array Value)[1]? = some y' := rfl
  rcases hdi with ⟨e', rfl⟩ | rfl <;> cases base <;>
    simp only [h0, h1, a0, a1, Sem.run_bind, rund w hu, rund w hd, rsize w hi, Result.andThen_ok, Sem.run_pure, hlen, Bool.false_eq_true, if_false, hroom, if_true, hnew, Bool.not_false, Sem.run_ite, List.toList_toArray]
theorem run_append_more {w : World} {tx ty e : TypeId} {d : TypeDesc} {i : TypeInfo} {z : Value} (hu : P.underlying tx = some (.slice e)) (hi : P.info? e = some i) (hz : i.zero = some z) (hd : P.underlying ty = some d) (hdi : (∃ e, d = .slice e) ∨ d = .string)
    {base : Option Addr} {n C m : Nat} {y' : Value} {old new : List Value} (hlen : ∀ w2, (Builtin.lenOf y').run P w2 = .ok m w2) (hold : (Builtin.firstCells i.size n (.slice base n C)).run P w.drew = .ok old.toArray w.drew)
    (hnew : (Builtin.firstCells i.size m y').run P w.drew = .ok new.toArray w.drew) (hroom : C < n + m) (hfit : (n + m) * i.bytes ≤ 140737488355328) (hbig : n + m ≤ 4611686018427387904) (rest : Array TypeId) (t : TypeId)
    (h0 : rest[0]? = some tx) (h1 : rest[1]? = some ty) :
    (Builtin.append_ rest t #[.slice base n C, y']).run P w =
      .ok (.slice (some ⟨w.heap.size, 0, none⟩) (n + m) (grownCap w (n + m) C e)) (w.drew.alloc (.cells (old.toArray ++ new.toArray ++ Builtin.zeroCells z.cells (grownCap w (n + m) C e - (n + m))) e)) := by
  have hn : ¬ (n + m ≤ C) := by omega
  have h63' : ¬ (9223372036854775807 < ((n : Int) + (m : Int))) := by omega
  have h48 := growslice_fits hroom hfit
  have h48' : ¬ (281474976710656 < Builtin.nextslicecap (n + m) C * i.bytes) := by omega
  unfold Builtin.append_
  have a0 : (#[Value.slice base n C, y'] : Array Value)[0]? = some (.slice base n C) := rfl
  have a1 : (#[Value.slice base n C, y'] : Array Value)[1]? = some y' := rfl
  have hch : (choose (.appendCap (n + m) C e)).run P w = .ok (grownCap w (n + m) C e) w.drew := by simp [Question.forced, grownCap]
  have hmx : ¬ (((n + m : Nat) : Int) > IntKind.i64.max ∧ (False ∨ i.bytes = 0)) := by simp [IntKind.max, IntKind.signed, IntKind.bits]; omega
  have h48'' : ¬ (Builtin.nextslicecap (n + m) C * i.bytes > 2 ^ 48) := by simp; omega
  rcases hdi with ⟨e', rfl⟩ | rfl <;>
    simp only [h0, h1, a0, a1, Sem.run_bind, rund w hu, rund w hd, rsize w hi, rinfo w hi, rinfo w.drew hi, Result.andThen_ok, Sem.run_pure, hlen, Bool.false_eq_true, if_false, hn, hmx, h48'', hch, run_askRoom, hold, hnew, rzero w.drew hi hz, Bool.not_false, if_true, Sem.run_ite,
      newRow, run_newObj, World.alloc_eq, World.size_drew]
end
end Go.AE
