/- Ground 1. -/
import Derived.Orders
import Derived.Laws.CopyRow
import Derived.Lib.LaidTab
import Derived.Tactics
import Derived.Laws.StructEq
import Derived.Laws.Strings
import Derived.Laws.Cells

set_option linter.unusedVariables false
set_option linter.unusedSimpArgs false
set_option maxRecDepth 100000
namespace Go.Proofs.YtdljcbbodihagaaGreatDoor
open Go

inductive AV where
 | undef
 | bool (b : Bool)
 | int (k : IntKind) (n : Int)
 | str (s : List UInt8)
 | nil
 | sl (t : Nat) (xs sp : List AV) (ex : Bool)
 | ref (id n off len : Nat)
 | own (t : Nat) (xs sp : List AV) (ex : Bool)
 | ptr (id n i j : Nat)
 | cptr (t : Nat) (v : AV) (j : Nat)
 | fn (f : Fn) (first cap : List AV)
 | agg (cs : List AV)
 | tup (vs : List AV)
 deriving Inhabited
structure Blk where
 t : Nat
 xs : List AV
 ex : Bool
 gr : Bool
 lv : Bool
def Blk.dead : Blk := ⟨0, [], false, false, false⟩
structure St where
 fr : Nat → AV
 h : Nat → Blk
 nx : Nat
def upd {α : Type} (f : Nat → α) (i : Nat) (v : α) : Nat → α := fun j => if j = i then v else f j
theorem upd_app {α : Type} (f : Nat → α) (i : Nat) (v : α) (j : Nat) : upd f i v j = if j = i then v else f j := rfl
def AV.cells : AV → List AV
 | .agg cs => cs
 | v => [v]
mutual
def AV.pure : AV → Bool
 | .sl _ xs sp _ => AV.pureL xs && AV.pureL sp
 | .ref .. | .ptr .. | .own .. => false
 | .cptr _ v _ => v.pure
 | .fn _ a b => AV.pureL a && AV.pureL b
 | .agg cs => AV.pureL cs
 | .tup vs => AV.pureL vs
 | _ => true
def AV.pureL : List AV → Bool
 | [] => true
 | x :: xs => x.pure && AV.pureL xs
end
mutual
def AV.solid : AV → Bool
 | .own _ xs sp _ => AV.solidL xs && AV.solidL sp
 | .agg cs => AV.solidL cs
 | .tup vs => AV.solidL vs
 | .sl .. | .cptr .. | .fn .. | .ref .. | .ptr .. => false
 | _ => true
def AV.solidL : List AV → Bool
 | [] => true
 | x :: xs => x.solid && AV.solidL xs
end
def szT (P : Program) (t : Nat) : Nat := ((P.info? t).map (·.size)).getD 0
def byT (P : Program) (t : Nat) : Nat := ((P.info? t).map (·.bytes)).getD 0
def aggT (P : Program) (t : Nat) : Bool :=
 match P.underlying t with
 | some (.struct _) | some (.array ..) => true
 | _ => false
def elT (P : Program) (t : Nat) : Option Nat :=
 match P.underlying t with
 | some (.slice e) => some e
 | _ => none
def okT (P : Program) (t : Nat) : Bool := (P.underlying t).isSome && (P.info? t).isSome
def strT (P : Program) (t : Nat) : Bool := match P.underlying t with | some .string => true | _ => false
def u32T (P : Program) (t : Nat) : Bool := match P.underlying t with | some (.int .u32) => true | _ => false
def boolT (P : Program) (t : Nat) : Bool := match P.underlying t with | some .bool => true | _ => false
def isBool : AV → Bool | .bool _ => true | _ => false
def ofCell : Value → AV
 | .bool b => .bool b
 | .int k n => .int k n
 | .string s => .str s.data.toList
 | .slice none 0 0 => .nil
 | _ => .undef
def ofVal : Value → AV
 | .agg cs => .agg (cs.toList.map ofCell)
 | v => ofCell v
def zeroA (P : Program) (t : Nat) : Option AV := ((P.info? t).bind (·.zero)).map ofVal
def St.ev (st : St) : Operand → AV
 | .tmp t => st.fr t
 | .const v => ofVal v
 | .func f => .fn (.func f) [] []
 | .global _ => .undef
def St.put (st : St) (dst : Option Tmp) (v : AV) : St :=
 match dst with
 | some d => { st with fr := upd st.fr d v }
 | none => st
def AV.one : AV → Bool
 | .undef | .agg _ | .tup _ => false
 | _ => true
def AV.el (P : Program) (t : Nat) (x : AV) : Bool := decide (x.cells.length = szT P t) && x.cells.all AV.one
def partA (P : Program) (t : Nat) (cs : List AV) (j : Nat) : Option AV :=
 if aggT P t then
  if j + szT P t ≤ cs.length then some (.agg ((cs.drop j).take (szT P t))) else none
 else cs[j]?
def ldA (P : Program) (t : Nat) (x : AV) (j : Nat) : Option AV := partA P t x.cells j
def setCells (cs : List AV) (j : Nat) : List AV → List AV
 | [] => cs
 | v :: vs => setCells (cs.set j v) (j + 1) vs
def stA (P : Program) (t : Nat) (x : AV) (j : Nat) (v : AV) : Option AV :=
 if v.el P t ∧ j + szT P t ≤ x.cells.length then
  match x with
  | .agg cs => some (.agg (setCells cs j v.cells))
  | _ => match v with
   | .agg _ => none
   | v => some v
 else none
def fieldOff (P : Program) (t : Nat) (f : Nat) : Option (Nat × Nat) :=
 match P.underlying t with
 | some (.struct fs) => (fs[f]?).map fun x => (x.offset, x.type)
 | _ => none
def fillA (P : Program) (t : Nat) (cs : List AV) : List (Nat × AV) → Option (List AV)
 | [] => some cs
 | (i, v) :: rest =>
  match fieldOff P t i with
  | some (off, u) => if v.el P u ∧ off + szT P u ≤ cs.length then fillA P t (setCells cs off v.cells) rest else none
  | none => none
def intA (op : BinOp) (k : IntKind) (a b : Int) : Option AV :=
 match op with
 | .add => some (.int k (k.wrap (a + b)))
 | .sub => some (.int k (k.wrap (a - b)))
 | .mul => some (.int k (k.wrap (a * b)))
 | .quo => if b = 0 then none else some (.int k (k.wrap (a.tdiv b)))
 | .rem => if b = 0 then none else some (.int k (a.tmod b))
 | .and => some (.int k (k.wrap (BitVec.ofInt k.bits a &&& BitVec.ofInt k.bits b).toNat))
 | .or => some (.int k (k.wrap (BitVec.ofInt k.bits a ||| BitVec.ofInt k.bits b).toNat))
 | .xor => some (.int k (k.wrap (BitVec.ofInt k.bits a ^^^ BitVec.ofInt k.bits b).toNat))
 | .eql => some (.bool (a == b))
 | .neq => some (.bool (a != b))
 | .lss => some (.bool (decide (a < b)))
 | .leq => some (.bool (decide (a ≤ b)))
 | .gtr => some (.bool (decide (a > b)))
 | .geq => some (.bool (decide (a ≥ b)))
 | _ => none
def binA (op : BinOp) (x y : AV) : Option AV :=
 match x, y with
 | .int k a, .int k' b =>
  match op with
  | .shl => if b < 0 then none else some (.int k (k.wrap (a * 2 ^ (min b.toNat k.bits))))
  | .shr => if b < 0 then none else some (.int k (a.fdiv (2 ^ (min b.toNat k.bits))))
  | _ => if k = k' then intA op k a b else none
 | .str a, .str b =>
  match op with
  | .add => if a.length + b.length ≤ 9223372036854775807 then some (.str (a ++ b)) else none
  | .eql => some (.bool (a == b))
  | .neq => some (.bool (!(a == b)))
  | _ => none
 | .bool a, .bool b =>
  match op with
  | .eql => some (.bool (a == b))
  | .neq => some (.bool (!(a == b)))
  | _ => none
 | _, _ => none
def unA (op : UnOp) (x : AV) : Option AV :=
 match op, x with
 | .neg, .int k n => some (.int k (k.wrap (0 - n)))
 | .not, .bool b => some (.bool (!b))
 | _, _ => none
def convA (P : Program) (dst : Nat) (x : AV) : Option AV :=
 match P.underlying dst, x with
 | some (.int k), .int _ n => some (.int k (k.wrap n))
 | some .string, .str s => some (.str s)
 | _, _ => none
def bytesOf : List AV → Option (List UInt8)
  | [] => some []
  | .int .u8 n :: xs => (bytesOf xs).map (UInt8.ofNat n.toNat :: ·)
  | _ => none
def u8T (P : Program) (t : Nat) : Bool := (match P.underlying t with | some (.int .u8) => true | _ => false) && szT P t == 1
def bndA (v : AV) (y : Nat) : Option Nat :=
 match v with
 | .int _ i => if 0 ≤ i ∧ i ≤ (y : Int) then some i.toNat else none
 | _ => none
def bounds2 (len cap : Nat) (lo hi : Option AV) : Option (Nat × Nat) :=
  match (match hi with | some v => bndA v cap | none => some len) with
  | some h => (match lo with | some v => bndA v h | none => some 0).map (·, h)
  | none => none
def zeroI : AV → Bool
 | .int _ n => n == 0
 | _ => false
def sliceA (P : Program) (st : St) (xt : Nat) (x : AV) (lo hi : Option AV) (mx : Option AV) : Option AV :=
 match mx with
 | some m =>
  if lo.isNone = true ∧ hi.map zeroI = some true ∧ zeroI m = true then
   match x with
   | .nil => if ((elT P xt).bind P.info?).isSome then some .nil else none
   | .sl t _ _ _ => if elT P xt = some t ∧ (P.info? t).isSome then some (.sl t [] [] true) else none
   | .ref id n _ _ => if (st.h id).lv ∧ (st.h id).xs.length = n ∧ elT P xt = some (st.h id).t ∧ (P.info? (st.h id).t).isSome then some (.sl (st.h id).t [] [] true) else none
   | _ => none
  else none
 | none =>
  match x with
  | .str s => if strT P xt then (bounds2 s.length s.length lo hi).map fun p => .str ((s.take p.2).drop p.1) else none
  | .nil => if ((elT P xt).bind P.info?).isSome then (bounds2 0 0 lo hi).map fun _ => .nil else none
  | .sl t xs sp ex => if elT P xt = some t ∧ (P.info? t).isSome then (bounds2 xs.length (xs.length + sp.length) lo hi).map fun p =>
    .sl t (((xs ++ sp).take p.2).drop p.1) (if ex then (xs ++ sp).drop p.2 else []) ex else none
  | .ref id n off len =>
   if (st.h id).lv ∧ (st.h id).xs.length = n ∧ elT P xt = some (st.h id).t ∧ (P.info? (st.h id).t).isSome then
    (bounds2 len (n - off) lo hi).map fun p => .ref id n (off + p.1) (p.2 - p.1)
   else none
  | _ => none
def indexAddrA (P : Program) (st : St) (xt : Nat) (x i : AV) : Option AV :=
  match x, i with
  | .sl t xs _ _, .int _ i => if elT P xt = some t ∧ (P.info? t).isSome ∧ 0 ≤ i ∧ i < (xs.length : Int) then (xs[i.toNat]?).map (.cptr t · 0) else none
  | .ref id n off len, .int _ i =>
    if (st.h id).lv ∧ (st.h id).xs.length = n ∧ elT P xt = some (st.h id).t ∧ (P.info? (st.h id).t).isSome ∧ off + len ≤ n then
      if 0 ≤ i ∧ i < (len : Int) then some (.ptr id n (off + i.toNat) 0) else none
    else none
  | _, _ => none
def lenA (st : St) : AV → Option Int
 | .str s => some s.length
 | .nil => some 0
 | .sl _ xs _ _ => some xs.length
 | .ref id n _ len => if (st.h id).lv ∧ (st.h id).xs.length = n then some len else none
 | _ => none
def lenT (P : Program) (t : Nat) : AV → Bool
 | .str _ => strT P t
 | _ => (elT P t).isSome
def loadA (P : Program) (st : St) (t : Nat) : AV → Option AV
  | .cptr _ v j => ldA P t v j
  | .ptr id n i j => if (st.h id).lv ∧ (st.h id).xs.length = n then ((st.h id).xs[i]?).bind (ldA P t · j) else none
  | _ => none
def storeA (P : Program) (st : St) (t : Nat) (a v : AV) : Option St :=
 match a with
 | .ptr id n i j =>
  if (st.h id).lv ∧ (st.h id).xs.length = n then
   match (st.h id).xs[i]? with
   | some x => (stA P t x j v).map fun x' => { st with h := upd st.h id { st.h id with xs := (st.h id).xs.set i x' } }
   | none => none
  else none
 | _ => none
def St.new (st : St) (b : Blk) : St := { st with h := upd st.h st.nx b, nx := st.nx + 1 }
def winA (st : St) (e : Nat) : AV → Option (List AV)
 | .nil => some []
 | .sl t xs _ _ => if t = e then some xs else none
 | .ref id n off len => if (st.h id).lv ∧ (st.h id).xs.length = n ∧ (st.h id).t = e ∧ off + len ≤ n then some (((st.h id).xs.drop off).take len) else none
 | _ => none
def reach : Nat := 140737488355328
def nilV : Value → Bool
 | .slice none 0 0 => true
 | _ => false
def binN (P : Program) (op : BinOp) (t : Nat) (y : Operand) (ax ay : AV) : Option AV :=
 match y with
 | .const v => if nilV v then (match op, ax with
   | .eql, .sl _ xs _ _ => if xs.length ≠ 0 ∧ (elT P t).isSome = true then some (.bool false) else none
   | .neq, .sl _ xs _ _ => if xs.length ≠ 0 ∧ (elT P t).isSome = true then some (.bool true) else none
   | _, _ => none)
  else binA op ax ay
 | _ => binA op ax ay
def conA (P : Program) (st : St) (src dst : Nat) (v : AV) : Option AV :=
 if src = 147 then
  if strT P dst then (elT P src).bind fun e => if u8T P e then (winA st e v).bind fun ys => (bytesOf ys).map .str else none else none
 else convA P dst v
def appendA (P : Program) (st : St) (e : Nat) (s : AV) (ys : List AV) : Option (AV × St) :=
 match s with
 | .nil =>
  if ys = [] then some (.nil, st)
  else if ys.length * byT P e ≤ reach ∧ ys.length ≤ reach then some (.ref st.nx ys.length 0 ys.length, st.new ⟨e, ys, false, true, true⟩) else none
 | .sl t xs sp ex =>
  if ex ∧ sp = [] ∧ ys ≠ [] ∧ t = e then
   if (xs.length + ys.length) * byT P e ≤ reach ∧ xs.length + ys.length ≤ reach then
    some (.ref st.nx (xs.length + ys.length) 0 (xs.length + ys.length), st.new ⟨e, xs ++ ys, false, true, true⟩)
   else none
  else if ys = [] ∧ t = e then some (.sl t xs sp ex, st) else none
 | .ref id n off len =>
  if (st.h id).lv ∧ (st.h id).xs.length = n ∧ (st.h id).t = e ∧ off + len ≤ n then
   if off + len + ys.length ≤ n then
    some (.ref id n off (len + ys.length), { st with h := upd st.h id { st.h id with xs := (st.h id).xs.take (off + len) ++ ys ++ (st.h id).xs.drop (off + len + ys.length) } })
   else if off = 0 ∧ len = n ∧ (st.h id).gr ∧ (len + ys.length) * byT P e ≤ reach ∧ len + ys.length ≤ reach then
    some (.ref id (n + ys.length) 0 (n + ys.length), { st with h := upd st.h id { st.h id with xs := (st.h id).xs ++ ys, ex := false } })
   else none
  else none
 | _ => none
def copyA (P : Program) (st : St) (e : Nat) (s : AV) (ys : List AV) : Option (AV × St) :=
 match s with
 | .ref id n off len =>
  if off + len ≤ n ∧ ys.length ≤ len then (appendA P st e (.ref id n off 0) ys).bind fun p => if (st.h id).lv ∧ (st.h id).xs.length = n then some (.int .i64 ys.length, p.2) else none
  else none
 | _ => none
def cntT (P : Program) (u : Nat) : Bool := match P.underlying u with | some (.int _) => true | _ => false
def appendN (P : Program) (st : St) (u e : Nat) (s x : AV) : Option (AV × St) :=
 match s, x with
 | .nil, .int _ n =>
  if cntT P u ∧ 0 < n ∧ n * (byT P e : Int) ≤ reach ∧ n ≤ reach ∧ szT P e ≠ 0 then
   (zeroA P e).bind fun z => if z.el P e then some (.ref st.nx n.toNat 0 n.toNat, st.new ⟨e, List.replicate n.toNat z, false, true, true⟩) else none
  else none
 | _, _ => none
def cutA (s x : AV) : AV :=
 match s, x with
 | .ref _ _ _ l, .ref id n off len => if len ≤ l then .ref id n off len else .ref id n off l
 | .ref _ _ _ l, .sl t xs sp ex => if l = 0 then .nil else .sl t xs sp ex
 | _, x => x
def zokT (P : Program) (e : Nat) : Bool := ((zeroA P e).map (AV.el P e)).getD false
def infosT (P : Program) (t : Nat) : Bool :=
 match P.underlying t with
 | some (.struct fs) => fs.toList.all fun f => (P.info? f.type).isSome
 | _ => false
def partsA : Nat → List (Nat × AV) → Option (List AV)
  | _, [] => some []
  | i, (j, v) :: rest => if i = j then (partsA (i + 1) rest).map (v :: ·) else none
def evalOp (P : Program) (st : St) (o : Op) : Option (AV × St) :=
  match o with
  | .move x | .assign x => some (st.ev x, st)
  | .pick c a b => match st.ev c with
    | .bool t => some (if t then st.ev a else st.ev b, st)
    | _ => none
  | .alloc e => (zeroA P e).bind fun z =>
      if z.el P e then some (.ptr st.nx 1 0 0, st.new ⟨e, [z], true, false, true⟩) else none
  | .box e x => if (st.ev x).el P e then some (.ptr st.nx 1 0 0, st.new ⟨e, [st.ev x], true, false, true⟩) else none
  | .build t parts => if infosT P t then match zeroA P t with
      | some (.agg cs) => (fillA P t cs (parts.toList.map fun p => (p.1, st.ev p.2))).map fun cs => (.agg cs, st)
      | _ => none
    else none
  | .buildSlice t len parts => (elT P t).bind fun e =>
      if len * szT P e ≤ 16777216 ∧ zokT P e then
        if len = 0 ∧ u32T P e = false then (if parts.toList = [] then some (.ref st.nx 0 0 0, st.new ⟨e, [], true, true, true⟩) else none)
        else (partsA 0 (parts.toList.map fun p => (p.1, st.ev p.2))).bind fun xs =>
          if xs.length = len ∧ xs.all (AV.el P e) then some (.sl e xs [] true, st) else none
      else none
  | .nilCheck x => match st.ev x with
    | .ptr id n i j => some (.ptr id n i j, st)
    | .cptr t v j => some (.cptr t v j, st)
    | _ => none
  | .load t a => if okT P t then (loadA P st t (st.ev a)).map (·, st) else none
  | .store t a x => if okT P t then (storeA P st t (st.ev a) (st.ev x)).map (.undef, ·) else none
  | .binOp op t x y _ => if isBool (st.ev x) → boolT P t then (binN P op t y (st.ev x) (st.ev y)).map (·, st) else none
  | .unOp op _ x => (unA op (st.ev x)).map (·, st)
  | .convert src dst x => if okT P src then (conA P st src dst (st.ev x)).map (·, st) else none
  | .makeFunc f first cap => some (.fn f (first.toList.map st.ev) (cap.toList.map st.ev), st)
  | .makeSlice t l c => (elT P t).bind fun e =>
      match st.ev l, st.ev c with
      | .int _ l, .int _ c =>
        if 0 ≤ l ∧ l ≤ c ∧ c * (byT P e : Int) ≤ reach ∧ c ≤ reach then
          (zeroA P e).bind fun z =>
            if z.el P e then some (.ref st.nx c.toNat 0 l.toNat, st.new ⟨e, List.replicate c.toNat z, true, true, true⟩) else none
        else none
      | _, _ => none
  | .slice t x lo hi mx => (sliceA P st t (st.ev x) (lo.map st.ev) (hi.map st.ev) (mx.map st.ev)).map (·, st)
  | .fieldAddr s x f => match fieldOff P s f, st.ev x with
    | some (off, u), .ptr id n i j => if szT P u ≠ 0 then some (.ptr id n i (j + off), st) else none
    | some (off, u), .cptr t v j => if szT P u ≠ 0 then some (.cptr t v (j + off), st) else none
    | _, _ => none
  | .field t x f => match fieldOff P t f, st.ev x with
    | some (off, u), .agg cs => if okT P u then (partA P u cs off).map (·, st) else none
    | _, _ => none
  | .indexAddr t x i => (indexAddrA P st t (st.ev x) (st.ev i)).map (·, st)
  | .index t x i => match st.ev x, st.ev i with
    | .str s, .int _ i => if strT P t ∧ 0 ≤ i ∧ i < (s.length : Int) then (s[i.toNat]?).map fun b => (.int .u8 b.toNat, st) else none
    | _, _ => none
  | .extract t i => match st.ev t with
    | .tup vs => (vs[i]?).map (·, st)
    | _ => none
  | .call { callee := .builtin b, args := as0, argTypes := ts } =>
    match b, as0.toList, ts.toList with
    | .len, [x], [t] => if lenT P t (st.ev x) then (lenA st (st.ev x)).map fun n => (.int .i64 n, st) else none
    | .append, [s, x], [t, u] => (elT P t).bind fun e => match (if elT P u = some e ∧ zokT P e then winA st e (st.ev x) else none) with
      | some ys => appendA P st e (st.ev s) ys
      | none => appendN P st u e (st.ev s) (st.ev x)
    | .cap, [x], [t] => match st.ev x, elT P t with
      | .nil, some _ => some (.int .i64 0, st)
      | _, _ => none
    | .copy, [s, x], [t, u] => (elT P t).bind fun e => if elT P u = some e ∧ zokT P e then (winA st e (cutA (st.ev s) (st.ev x))).bind fun ys => copyA P st e (st.ev s) ys else none
    | .max, [x, y], _ => match st.ev x, st.ev y with
      | .int k a, .int k' b => if k = k' then some (.int k (if b > a then b else a), st) else none
      | _, _ => none
    | .min, [x, y], _ => match st.ev x, st.ev y with
      | .int k a, .int k' b => if k = k' then some (.int k (if b < a then b else a), st) else none
      | _, _ => none
    | _, _, _ => none
  | _ => none
mutual
def AV.flat : AV → Bool
 | .own _ xs sp _ => AV.pureL xs && AV.pureL sp
 | .agg cs => AV.flatL cs
 | .tup cs => AV.flatL cs
 | .ref .. | .ptr .. => false
 | .sl _ xs sp _ => AV.pureL xs && AV.pureL sp
 | .cptr _ v _ => v.pure
 | .fn _ a b => AV.pureL a && AV.pureL b
 | _ => true
def AV.flatL : List AV → Bool
 | [] => true
 | x :: xs => x.flat && AV.flatL xs
end
mutual
def matA (g : Bool) : AV → St → AV × St
 | .own t xs sp ex, st => (.ref (matL g sp (matL g xs st).2).2.nx (xs.length + sp.length) 0 xs.length,
   (matL g sp (matL g xs st).2).2.new ⟨t, (matL g xs st).1 ++ (matL g sp (matL g xs st).2).1, ex, g, true⟩)
 | .agg cs, st => (.agg (matL g cs st).1, (matL g cs st).2)
 | .tup vs, st => (.tup (matL g vs st).1, (matL g vs st).2)
 | x, st => (x, st)
def matL (g : Bool) : List AV → St → List AV × St
 | [], st => ([], st)
 | x :: xs, st => ((matA g x st).1 :: (matL g xs (matA g x st).2).1, (matL g xs (matA g x st).2).2)
end
mutual
theorem matA_pure (g : Bool) : ∀ (x : AV) (st : St), x.pure = true → matA g x st = (x, st)
 | .own .., _, h => by simp [AV.pure] at h
 | .agg cs, st, h => by simp only [AV.pure] at h; simp [matA, matL_pure g cs st h]
 | .tup vs, st, h => by simp only [AV.pure] at h; simp [matA, matL_pure g vs st h]
 | .undef, _, _ | .bool _, _, _ | .int .., _, _ | .str _, _, _ | .nil, _, _ | .sl .., _, _ | .ref .., _, _ | .ptr .., _, _ | .cptr .., _, _ | .fn .., _, _ => by simp [matA]
theorem matL_pure (g : Bool) : ∀ (xs : List AV) (st : St), AV.pureL xs = true → matL g xs st = (xs, st)
 | [], _, _ => by simp [matL]
 | x :: xs, st, h => by
  simp only [AV.pureL, Bool.and_eq_true] at h
  simp [matL, matA_pure g x st h.1, matL_pure g xs st h.2]
end
structure Loc where
 b : Nat
 base : Nat
 cap : Nat
structure Env where
 w : World
 I : Nat → Prop
 m : Nat → Loc
 h : Nat → Blk
 nx : Nat
def CellsAt (c : Array Value) (off sz : Nat) (vs : List Value) : Prop :=
 ∀ i v, vs[i]? = some v → v.cells.size = sz ∧ ∀ j u, v.cells[j]? = some u → c[off + i * sz + j]? = some u
mutual
def rep (P : Program) (E : Env) : AV → Value → Prop
 | .undef, _ => True
 | .bool b, v => v = .bool b
 | .int k n, v => v = .int k n
 | .str s, v => v = .string ⟨s.toArray⟩
 | .nil, v => ∃ a, v = .slice a 0 0
 | .sl t xs sp ex, v => ∃ a cap, v = .slice a xs.length cap ∧ xs.length + sp.length ≤ cap ∧ (ex = true → cap = xs.length + sp.length) ∧
   (∀ x ∈ xs ++ sp, x.el P t = true) ∧ ∃ vs us, repL P E xs vs ∧ repL P E sp us ∧ (xs.length + sp.length ≠ 0 → ∃ b off c, ∃ fz : TypeId × (Nat × Nat), a = some ⟨b, off, none⟩ ∧ E.I b ∧
    E.w.heap[b]? = some (.cells c fz.1 fz.2) ∧ CellsAt c off (szT P t) (vs ++ us))
 | .ref id n off len, v => id < E.nx ∧ n ≤ (E.h id).xs.length ∧ ∃ ad k, v = .slice (some ad) len k ∧ ((E.h id).lv = true → (E.h id).xs.length = n → off + len ≤ n ∧
   k = (E.m id).cap - off ∧ (k ≠ 0 → ad = ⟨(E.m id).b, (E.m id).base + off * szT P (E.h id).t, none⟩))
 | .own .., _ => False
 | .ptr id n i j, v => id < E.nx ∧ n ≤ (E.h id).xs.length ∧ ∃ ad, v = .pointer (some ad) ∧ ((E.h id).lv = true → (E.h id).xs.length = n → ad = ⟨(E.m id).b, (E.m id).base + i * szT P (E.h id).t + j, none⟩)
 | .cptr t x j, v => ∃ b off c, ∃ fz : TypeId × (Nat × Nat), ∃ u, v = .pointer (some ⟨b, off + j, none⟩) ∧ E.I b ∧ E.w.heap[b]? = some (.cells c fz.1 fz.2) ∧ rep P E x u ∧ x.cells.length = u.cells.size ∧ CellsAt c off u.cells.size [u]
 | .fn f first cap, v => ∃ vs us, v = .func f vs.toArray us.toArray ∧ repL P E first vs ∧ repL P E cap us
 | .agg cs, v => ∃ vs, v = .agg vs.toArray ∧ repL P E cs vs
 | .tup xs, v => ∃ vs, v = .tuple vs.toArray ∧ repL P E xs vs
def repL (P : Program) (E : Env) : List AV → List Value → Prop
 | [], vs => vs = []
 | x :: xs, vs => ∃ v us, vs = v :: us ∧ rep P E x v ∧ repL P E xs us
end
structure Env.Le (E E' : Env) : Prop where
 nx : E.nx ≤ E'.nx
 imm : ∀ b, E.I b → E'.I b ∧ E'.w.heap[b]? = E.w.heap[b]?
 len : ∀ id, id < E.nx → (E.h id).xs.length ≤ (E'.h id).xs.length
 prv : ∀ id, id < E.nx → ∀ n, n ≤ (E.h id).xs.length → (E'.h id).lv = true → (E'.h id).xs.length = n →
  (E.h id).lv = true ∧ (E.h id).xs.length = n ∧ (E'.h id).t = (E.h id).t ∧ E'.m id = E.m id
theorem Env.Le.refl (E : Env) : E.Le E := ⟨Nat.le_refl _, fun _ h => ⟨h, rfl⟩, fun _ _ => Nat.le_refl _, fun _ _ _ _ h1 h2 => ⟨h1, h2, rfl, rfl⟩⟩
theorem Env.Le.trans {A B C : Env} (h : A.Le B) (k : B.Le C) : A.Le C :=
  ⟨Nat.le_trans h.nx k.nx, fun b hb => ⟨(k.imm b (h.imm b hb).1).1, ((k.imm b (h.imm b hb).1).2).trans (h.imm b hb).2⟩,
   fun id hid => Nat.le_trans (h.len id hid) (k.len id (Nat.lt_of_lt_of_le hid h.nx)),
   fun id hid n hn h1 h2 => by
    obtain ⟨a1, a2, a3, a4⟩ := k.prv id (Nat.lt_of_lt_of_le hid h.nx) n (Nat.le_trans hn (h.len id hid)) h1 h2
    obtain ⟨b1, b2, b3, b4⟩ := h.prv id hid n hn a1 a2
    exact ⟨b1, b2, a3.trans b3, a4.trans b4⟩⟩
mutual
theorem rep_mono {P : Program} {E E' : Env} (hE : E.Le E') : ∀ (x : AV) (v : Value), rep P E x v → rep P E' x v
 | .undef, _, _ => by simp [rep]
 | .bool b, v, h => by simpa [rep] using h
 | .int k n, v, h => by simpa [rep] using h
 | .str s, v, h => by simpa [rep] using h
 | .nil, v, h => by simpa [rep] using h
 | .sl t xs sp ex, v, h => by
  simp only [rep] at h ⊢
  obtain ⟨a, cap, h1, h2, h3, h7, vs, us, h4, h5, h6⟩ := h
  refine ⟨a, cap, h1, h2, h3, h7, vs, us, repL_mono hE xs vs h4, repL_mono hE sp us h5, fun hne => ?_⟩
  obtain ⟨b, off, c, fz, g1, g2, g3, g4⟩ := h6 hne
  exact ⟨b, off, c, fz, g1, (hE.imm b g2).1, by rw [(hE.imm b g2).2]; exact g3, g4⟩
 | .ref id n off len, v, h => by
  simp only [rep] at h ⊢
  obtain ⟨h0, h0', ad, k, hv, h1⟩ := h
  refine ⟨Nat.lt_of_lt_of_le h0 hE.nx, Nat.le_trans h0' (hE.len id h0), ad, k, hv, fun hl hn => ?_⟩
  obtain ⟨a1, a2, a3, a4⟩ := hE.prv id h0 n h0' hl hn
  rw [a3, a4]
  exact h1 a1 a2
 | .own .., _, h => by simp [rep] at h
 | .ptr id n i j, v, h => by
  simp only [rep] at h ⊢
  obtain ⟨h0, h0', ad, hv, h1⟩ := h
  refine ⟨Nat.lt_of_lt_of_le h0 hE.nx, Nat.le_trans h0' (hE.len id h0), ad, hv, fun hl hn => ?_⟩
  obtain ⟨a1, a2, a3, a4⟩ := hE.prv id h0 n h0' hl hn
  rw [a3, a4]
  exact h1 a1 a2
 | .cptr t x j, v, h => by
  simp only [rep] at h ⊢
  obtain ⟨b, off, c, fz, u, h1, h2, h3, h4, h6, h5⟩ := h
  exact ⟨b, off, c, fz, u, h1, (hE.imm b h2).1, by rw [(hE.imm b h2).2]; exact h3, rep_mono hE x u h4, h6, h5⟩
 | .fn f first cap, v, h => by
  simp only [rep] at h ⊢
  obtain ⟨vs, us, h1, h2, h3⟩ := h
  exact ⟨vs, us, h1, repL_mono hE first vs h2, repL_mono hE cap us h3⟩
 | .agg cs, v, h => by
  simp only [rep] at h ⊢
  obtain ⟨vs, h1, h2⟩ := h
  exact ⟨vs, h1, repL_mono hE cs vs h2⟩
 | .tup xs, v, h => by
  simp only [rep] at h ⊢
  obtain ⟨vs, h1, h2⟩ := h
  exact ⟨vs, h1, repL_mono hE xs vs h2⟩
theorem repL_mono {P : Program} {E E' : Env} (hE : E.Le E') : ∀ (xs : List AV) (vs : List Value), repL P E xs vs → repL P E' xs vs
 | [], vs, h => by simpa [repL] using h
 | x :: xs, vs, h => by
  simp only [repL] at h ⊢
  obtain ⟨v, us, h1, h2, h3⟩ := h
  exact ⟨v, us, h1, rep_mono hE x v h2, repL_mono hE xs us h3⟩
end
theorem repL_length {P : Program} {E : Env} : ∀ {xs : List AV} {vs : List Value}, repL P E xs vs → vs.length = xs.length
 | [], vs, h => by simp only [repL] at h; simp [h]
 | x :: xs, vs, h => by
  simp only [repL] at h
  obtain ⟨v, us, rfl, _, h3⟩ := h
  simp [repL_length h3]
theorem repL_append {P : Program} {E : Env} : ∀ {xs ys : List AV} {vs us : List Value}, repL P E xs vs → repL P E ys us → repL P E (xs ++ ys) (vs ++ us)
 | [], ys, vs, us, h, k => by simp only [repL] at h; subst h; simpa using k
 | x :: xs, ys, vs, us, h, k => by
  simp only [repL] at h
  obtain ⟨v, vs', rfl, h2, h3⟩ := h
  simp only [List.cons_append, repL]
  exact ⟨v, vs' ++ us, rfl, h2, repL_append h3 k⟩
theorem repL_get {P : Program} {E : Env} : ∀ {xs : List AV} {vs : List Value}, repL P E xs vs → ∀ (i : Nat) (x : AV), xs[i]? = some x → ∃ v, vs[i]? = some v ∧ rep P E x v
 | [], vs, h, i, x, hx => by simp at hx
 | y :: xs, vs, h, i, x, hx => by
  simp only [repL] at h
  obtain ⟨v, us, rfl, h2, h3⟩ := h
  cases i with
  | zero => simp only [List.getElem?_cons_zero, Option.some.injEq] at hx; subst hx; exact ⟨v, rfl, h2⟩
  | succ i => simpa using repL_get h3 i x (by simpa using hx)
theorem repL_mk {P : Program} {E : Env} : ∀ {xs : List AV} {vs : List Value}, vs.length = xs.length → (∀ (i : Nat) (x : AV) (v : Value), xs[i]? = some x → vs[i]? = some v → rep P E x v) → repL P E xs vs
 | [], vs, hl, _ => by simp only [repL]; simpa using hl
 | x :: xs, [], hl, _ => by simp at hl
 | x :: xs, v :: vs, hl, h => by
  simp only [repL]
  refine ⟨v, vs, rfl, h 0 x v rfl rfl, repL_mk (by simpa using hl) fun i x' v' hx hv => h (i + 1) x' v' (by simpa using hx) (by simpa using hv)⟩
theorem repL_take {P : Program} {E : Env} {xs : List AV} {vs : List Value} (h : repL P E xs vs) (n : Nat) : repL P E (xs.take n) (vs.take n) := by
  refine repL_mk (by simp [repL_length h]) fun i x v hx hv => ?_
  rw [List.getElem?_take] at hx hv
  split at hx
  · rename_i hi; rw [if_pos hi] at hv
    obtain ⟨u, hu, hr⟩ := repL_get h i x hx
    rw [hu] at hv; cases hv; exact hr
  · simp at hx
theorem repL_drop {P : Program} {E : Env} {xs : List AV} {vs : List Value} (h : repL P E xs vs) (n : Nat) : repL P E (xs.drop n) (vs.drop n) := by
 refine repL_mk (by simp [repL_length h]) fun i x v hx hv => ?_
 rw [List.getElem?_drop] at hx hv
 obtain ⟨u, hu, hr⟩ := repL_get h _ x hx
 rw [hu] at hv; cases hv; exact hr
theorem repL_set {P : Program} {E : Env} {xs : List AV} {vs : List Value} (h : repL P E xs vs) (n : Nat) {x : AV} {v : Value} (hx : rep P E x v) : repL P E (xs.set n x) (vs.set n v) := by
  refine repL_mk (by simp [repL_length h]) fun i x' v' hx' hv' => ?_
  rw [List.getElem?_set] at hx' hv'
  by_cases hi : n = i
  · subst hi
    simp only [if_true] at hx' hv'
    split at hx'
    · rename_i hlt; rw [if_pos (by rw [repL_length h]; exact hlt)] at hv'; cases hx'; cases hv'; exact hx
    · simp at hx'
  · rw [if_neg hi] at hx' hv'
    obtain ⟨u, hu, hr⟩ := repL_get h i x' hx'
    rw [hu] at hv'; cases hv'; exact hr
theorem repL_replicate {P : Program} {E : Env} (n : Nat) {x : AV} {v : Value} (hx : rep P E x v) : repL P E (List.replicate n x) (List.replicate n v) := by
  refine repL_mk (by simp) fun i x' v' hx' hv' => ?_
  rw [List.getElem?_replicate] at hx' hv'
  split at hx'
  · rename_i hi; rw [if_pos hi] at hv'; cases hx'; cases hv'; exact hx
  · simp at hx'
theorem rep_cells {P : Program} {E : Env} {x : AV} {v : Value} (h : rep P E x v) (hu : x.cells.length = v.cells.size) : repL P E x.cells v.cells.toList := by
 cases x <;> simp only [AV.cells, repL] at hu ⊢
 case agg cs =>
  simp only [rep] at h
  obtain ⟨vs, rfl, h2⟩ := h
  simpa [Value.cells] using h2
 case undef =>
  have hl : v.cells.toList.length = 1 := by simpa using hu.symm
  match hc : v.cells.toList, hl with
  | [u], _ => exact ⟨u, [], rfl, by simp [rep], rfl⟩
 all_goals
  refine ⟨v, [], ?_, h, rfl⟩
  simp only [rep] at h
 case bool => subst h; rfl
 case int => subst h; rfl
 case str => subst h; rfl
 case nil => obtain ⟨a, rfl⟩ := h; rfl
 case sl => obtain ⟨a, cap, rfl, _⟩ := h; rfl
 case ref => obtain ⟨_, _, ad, k, rfl, _⟩ := h; rfl
 case ptr => obtain ⟨_, _, ad, rfl, _⟩ := h; rfl
 case cptr => obtain ⟨b, off, c, fz, u, rfl, _⟩ := h; rfl
 case fn => obtain ⟨vs, us, rfl, _⟩ := h; rfl
 case tup => obtain ⟨vs, rfl, _⟩ := h; rfl
theorem rep_size {P : Program} {E : Env} {x : AV} {v : Value} (h : rep P E x v) (hu : x ≠ .undef) : x.cells.length = v.cells.size := by
 cases x <;> simp only [AV.cells] <;> simp only [rep] at h
 case undef => exact absurd rfl hu
 case agg cs => obtain ⟨vs, rfl, h2⟩ := h; simp [Value.cells, repL_length h2]
 case bool => subst h; rfl
 case int => subst h; rfl
 case str => subst h; rfl
 case nil => obtain ⟨a, rfl⟩ := h; rfl
 case sl => obtain ⟨a, cap, rfl, _⟩ := h; rfl
 case ref => obtain ⟨_, _, ad, k, rfl, _⟩ := h; rfl
 case ptr => obtain ⟨_, _, ad, rfl, _⟩ := h; rfl
 case cptr => obtain ⟨b, off, c, fz, u, rfl, _⟩ := h; rfl
 case fn => obtain ⟨vs, us, rfl, _⟩ := h; rfl
 case tup => obtain ⟨vs, rfl, _⟩ := h; rfl
theorem el_len {P : Program} {t : Nat} {x : AV} (h : x.el P t = true) : x.cells.length = szT P t := by
 simp only [AV.el, Bool.and_eq_true, decide_eq_true_eq] at h; exact h.1
theorem el_one {P : Program} {t : Nat} {x : AV} (h : x.el P t = true) : ∀ c ∈ x.cells, c.one = true := by
 simp only [AV.el, Bool.and_eq_true, List.all_eq_true] at h; exact h.2
theorem rep_one {P : Program} {E : Env} {x : AV} {v : Value} (h : rep P E x v) (h1 : x.one = true) : v.oneCell' = true := by
 cases x <;> simp only [AV.one] at h1 <;> try (simp at h1; done)
 all_goals simp only [rep] at h
 case bool => subst h; rfl
 case int => subst h; rfl
 case str => subst h; rfl
 case nil => obtain ⟨a, rfl⟩ := h; rfl
 case sl => obtain ⟨a, cap, rfl, _⟩ := h; rfl
 case ref => obtain ⟨_, _, ad, k, rfl, _⟩ := h; rfl
 case ptr => obtain ⟨_, _, ad, rfl, _⟩ := h; rfl
 case cptr => obtain ⟨b, off, c, fz, u, rfl, _⟩ := h; rfl
 case fn => obtain ⟨vs, us, rfl, _⟩ := h; rfl
theorem repL_one {P : Program} {E : Env} : ∀ {xs : List AV} {vs : List Value}, repL P E xs vs → (∀ x ∈ xs, x.one = true) → ∀ v ∈ vs, v.oneCell' = true
  | [], vs, h, _, v, hv => by simp only [repL] at h; subst h; simp at hv
  | x :: xs, vs, h, h1, v, hv => by
    simp only [repL] at h
    obtain ⟨u, us, rfl, h2, h3⟩ := h
    rcases List.mem_cons.1 hv with rfl | hv
    · exact rep_one h2 (h1 x (by simp))
    · exact repL_one h3 (fun y hy => h1 y (by simp [hy])) v hv
structure BlkOk (P : Program) (E : Env) (id : Nat) : Prop where
 lt : id < E.nx
 gr : (E.h id).gr = true → (E.m id).base = 0
 ex : (E.h id).ex = true → (E.m id).cap = (E.h id).xs.length
 le : (E.h id).xs.length ≤ (E.m id).cap
 cl : ∀ x ∈ (E.h id).xs, x.el P (E.h id).t = true
 dark : ¬ E.I (E.m id).b
 at_ : ∃ c vs, E.w.heap[(E.m id).b]? = some (.cells c (E.h id).t (0, 0)) ∧ repL P E (E.h id).xs vs ∧ CellsAt c (E.m id).base (szT P (E.h id).t) vs ∧
  (E.m id).base + (E.m id).cap * szT P (E.h id).t ≤ c.size
def tabName : String := "internal/strconv.uint64pow10"
def tabNums : List Int := [1, 10, 100, 1000, 10000, 100000, 1000000, 10000000, 100000000, 1000000000, 10000000000, 100000000000, 1000000000000, 10000000000000, 100000000000000, 1000000000000000, 10000000000000000, 100000000000000000, 1000000000000000000, 10000000000000000000]
def Tab (P : Program) (w : World) (I : Nat → Prop) : Prop := ∀ g, P.globalNamed tabName = some g → I g ∧ Lib.TabIs P w tabName .u64 tabNums
theorem Tab.step {P : Program} {w w' : World} {I I' : Nat → Prop} (h : Tab P w I) (hs : ∀ b, I b → I' b ∧ w'.heap[b]? = w.heap[b]?) : Tab P w' I' := fun g hg => by
 obtain ⟨h1, h2⟩ := h g hg
 refine ⟨(hs g h1).1, ?_⟩
 unfold Lib.TabIs World.var? at h2 ⊢
 rw [hg, Option.bind_some] at h2 ⊢
 rw [(hs g h1).2]; exact h2
theorem Tab.le {P : Program} {E E' : Env} (h : Tab P E.w E.I) (hle : E.Le E') : Tab P E'.w E'.I := h.step hle.imm
structure Ok (P : Program) (E : Env) : Prop where
 blk : ∀ id, (E.h id).lv = true → BlkOk P E id
 inj : ∀ i j, (E.h i).lv = true → (E.h j).lv = true → (E.m i).b = (E.m j).b → i = j
 imm : ∀ b, E.I b → b < E.w.heap.size
 tab : Tab P E.w E.I
def Env.lim (E : Env) (id : Nat) : Nat := if (E.h id).gr then (E.m id).cap else (E.h id).xs.length
structure Goes (P : Program) (E E' : Env) : Prop where
 os : E'.w.os = E.w.os
 tape : E'.w.tape = E.w.tape
 output : E'.w.output = E.w.output
 size : E.w.heap.size ≤ E'.w.heap.size
 keep : ∀ b, b < E.w.heap.size → (∀ id, (E.h id).lv = true → (E.m id).b ≠ b) → E'.w.heap[b]? = E.w.heap[b]?
 part : ∀ id, (E.h id).lv = true → ∀ c, E.w.heap[(E.m id).b]? = some (.cells c (E.h id).t (0, 0)) → ∃ c', E'.w.heap[(E.m id).b]? = some (.cells c' (E.h id).t (0, 0)) ∧ c'.size = c.size ∧
  ∀ j, (j < (E.m id).base ∨ (E.m id).base + E.lim id * szT P (E.h id).t ≤ j) → c'[j]? = c[j]?
 locs : ∀ id, (E'.h id).lv = true → ((E.h id).lv = true ∧ E'.m id = E.m id ∧ (E'.h id).t = (E.h id).t ∧ E'.lim id = E.lim id) ∨ (E.w.heap.size ≤ (E'.m id).b ∧ (E.nx ≤ id ∨ (E.h id).gr = true))
 dark : ∀ b, E'.I b → E.I b ∨ E.w.heap.size ≤ b ∨ ∃ id, (E.h id).lv = true ∧ (E.h id).gr = true ∧ (E.m id).b = b
 nx : E.nx ≤ E'.nx
 grs : ∀ id, id < E.nx → (E'.h id).gr = (E.h id).gr
theorem Goes.refl (P : Program) (E : Env) : Goes P E E :=
 ⟨rfl, rfl, rfl, Nat.le_refl _, fun _ _ _ => rfl, fun _ _ c h => ⟨c, h, rfl, fun _ _ => rfl⟩, fun _ h => .inl ⟨h, rfl, rfl, rfl⟩, fun _ h => .inl h, Nat.le_refl _, fun _ _ => rfl⟩
theorem rep_ofCell {P : Program} {E : Env} (v : Value) : rep P E (ofCell v) v := by
 unfold ofCell
 split <;> simp [rep]
theorem repL_ofCell {P : Program} {E : Env} : ∀ vs : List Value, repL P E (vs.map ofCell) vs
 | [] => by simp [repL]
 | v :: vs => by simp only [List.map_cons, repL]; exact ⟨v, vs, rfl, rep_ofCell v, repL_ofCell vs⟩
theorem rep_ofVal {P : Program} {E : Env} (v : Value) : rep P E (ofVal v) v := by
  unfold ofVal
  split
  · rename_i cs
    simp only [rep]
    exact ⟨cs.toList, by simp, repL_ofCell _⟩
  · exact rep_ofCell v
theorem rep_ev {P : Program} {E : Env} {st : St} {a : Act} (hf : ∀ t, rep P E (st.fr t) (a.tmps.getD t undef)) (x : Operand) : rep P E (st.ev x) (a.eval x) := by
 cases x with
 | tmp t => exact hf t
 | const v => exact rep_ofVal v
 | global g => simp [St.ev, rep]
 | func f => simp only [St.ev, Act.eval, rep]; exact ⟨[], [], rfl, by simp [repL], by simp [repL]⟩
theorem run_underlying {P : Program} {w : World} {t : TypeId} {d : TypeDesc} (h : P.underlying t = some d) : (underlying t).run P w = .ok d w := by
 simp [underlying, go_sem, h]
theorem run_typeInfo {P : Program} {w : World} {t : TypeId} {d : TypeInfo} (h : P.info? t = some d) : (typeInfo t).run P w = .ok d w := by
 simp [typeInfo, go_sem, h]
theorem run_sizeOf {P : Program} {w : World} {t : TypeId} {d : TypeInfo} (h : P.info? t = some d) : (sizeOf t).run P w = .ok (szT P t) w := by
 simp [sizeOf, typeInfo, go_sem, h, szT]
theorem rep_bool {P : Program} {E : Env} {b : Bool} {v : Value} (h : rep P E (.bool b) v) : v = .bool b := by simpa [rep] using h
theorem rep_int {P : Program} {E : Env} {k : IntKind} {n : Int} {v : Value} (h : rep P E (.int k n) v) : v = .int k n := by simpa [rep] using h
theorem rep_str {P : Program} {E : Env} {s : List UInt8} {v : Value} (h : rep P E (.str s) v) : v = .string ⟨s.toArray⟩ := by simpa [rep] using h
theorem shift_sound {P : Program} {E : Env} {op : BinOp} {t : TypeId} {k k' : IntKind} {a b : Int} {z : AV} {w : World} (h : binA op (.int k a) (.int k' b) = some z) :
    ∃ r, (binOp op t (.int k a) (.int k' b)).run P w = .ok r w ∧ rep P E z r := by
  cases op <;> simp only [binA, intA] at h <;>
    first
      | (split at h
         · rename_i hk; subst hk
           split at h
           · simp at h
           · rename_i hb; simp only [Option.some.injEq] at h; subst h; exact ⟨_, by simp only [binOp, Op.intDiv]; rw [if_neg (by simp), if_neg hb]; rfl, by simp [rep]⟩
         · simp at h)
      | (split at h
         · simp at h
         · rename_i hb; cases h; exact ⟨_, by simp only [binOp, Op.shift]; rw [if_neg hb]; rfl, by simp [rep]⟩)
      | (split at h
         · rename_i hk; subst hk; cases h; exact ⟨_, by simp [binOp, Op.intArith, Op.intCmp, Op.intBits]; rfl, by simp [rep]⟩
         · simp at h)
      | (split at h
         · rename_i hk; subst hk; simp at h
         · simp at h)
theorem bin_sound {P : Program} {E : Env} {op : BinOp} {t : TypeId} {x y : Operand} {ax ay z : AV} {u v : Value} {w : World} (hb : ∀ b, ax = .bool b → P.underlying t = some .bool) (h : binA op ax ay = some z) (hx : rep P E ax u) (hy : rep P E ay v) :
    ∃ r, (do eqGuard op t x y u v; binOp op t u v : Sem Value).run P w = .ok r w ∧ rep P E z r := by
  unfold binA at h
  split at h
  · rename_i k a k' b
    cases rep_int hx; cases rep_int hy
    have hg : (eqGuard op t x y (.int k a) (.int k' b)).run P w = .ok () w := by
      unfold eqGuard; cases op <;> rfl
    obtain ⟨r, h1, h2⟩ := shift_sound (t := t) (w := w) (E := E) (P := P) (show binA op (.int k a) (.int k' b) = some z from h)
    exact ⟨r, by simp [hg, h1], h2⟩
  · rename_i a b
    cases rep_str hx; cases rep_str hy
    have hg : (eqGuard op t x y (.string ⟨a.toArray⟩) (.string ⟨b.toArray⟩)).run P w = .ok () w := by
      unfold eqGuard; cases op <;> rfl
    have hl : ∀ l : List UInt8, (ByteArray.mk l.toArray).toList = l := fun l => by
      rw [ByteArray.toList_eq]
    cases op <;> simp only at h <;> try (simp at h; done)
    · split at h
      · rename_i hle; cases h
        refine ⟨.string ⟨(a ++ b).toArray⟩, ?_, by simp [rep]⟩
        have hs : ¬ ((((ByteArray.mk a.toArray).size + (ByteArray.mk b.toArray).size : Nat) : Int) > IntKind.i64.max) := by
          have h1 : (ByteArray.mk a.toArray).size = a.length := by simp [ByteArray.size]
          have h2 : (ByteArray.mk b.toArray).size = b.length := by simp [ByteArray.size]
          have h3 : IntKind.i64.max = 9223372036854775807 := by decide
          rw [h1, h2, h3]; omega
        simp only [Sem.run_bind, hg, Result.andThen_ok, binOp, Op.stringOp]
        rw [if_neg hs]
        simp only [Sem.run_pure]
        congr 2
      · simp at h
    · cases h
      exact ⟨.bool (a == b), by simp [hg, binOp, Op.stringOp, hl], by simp [rep]⟩
    · cases h
      exact ⟨.bool (!(a == b)), by simp [hg, binOp, Op.stringOp, hl], by simp [rep]⟩
  · rename_i a b
    cases rep_bool hx; cases rep_bool hy
    have hg : (eqGuard op t x y (.bool a) (.bool b)).run P w = .ok () w := by
      unfold eqGuard; cases op <;> rfl
    cases op <;> simp only at h <;> try (simp at h; done)
    · cases h
      exact ⟨.bool (a == b), by
        have he : (Op.equal t (.bool a) (.bool b)).run P w = .ok (a == b) w := run_equalIn_bool' w 9999 t a b (hb a rfl)
        simp only [Sem.run_bind, hg, Result.andThen_ok, binOp, he, Sem.run_pure], by simp [rep]⟩
    · cases h
      exact ⟨.bool (!(a == b)), by
        have he : (Op.equal t (.bool a) (.bool b)).run P w = .ok (a == b) w := run_equalIn_bool' w 9999 t a b (hb a rfl)
        simp only [Sem.run_bind, hg, Result.andThen_ok, binOp, he, Sem.run_pure], by simp [rep]⟩
  · simp at h
theorem nilV_eq {v : Value} (h : nilV v = true) : v = .slice none 0 0 := by
  unfold nilV at h
  split at h
  · rfl
  · cases h
theorem run_equalIn_nil {P : Program} {w : World} {t e : Nat} (d : Nat) {a : Addr} {n c : Nat} (hu : P.underlying t = some (.slice e)) : (Op.equalIn (d + 1) t (.slice (some a) n c) (.slice none 0 0)).run P w = .ok false w := by
 simp [Op.equalIn, run_underlying hu]
theorem run_equal_nil {P : Program} {w : World} {t e : Nat} {a : Addr} {n c : Nat} (h : elT P t = some e) : (Op.equal t (.slice (some a) n c) (.slice none 0 0)).run P w = .ok false w := by
  have hu : P.underlying t = some (.slice e) := by
    unfold elT at h
    split at h
    · rename_i e' he; cases h; exact he
    · cases h
  exact run_equalIn_nil 9999 hu
theorem binN_sound {P : Program} {E : Env} {op : BinOp} {t : TypeId} {x y : Operand} {ax ay z : AV} {u v : Value} {w : World} (hb : ∀ b, ax = .bool b → P.underlying t = some .bool) (h : binN P op t y ax ay = some z) (hx : rep P E ax u) (hy : rep P E ay v) (hc : ∀ c, y = .const c → v = c) :
    ∃ r, (do eqGuard op t x y u v; binOp op t u v : Sem Value).run P w = .ok r w ∧ rep P E z r := by
  unfold binN at h
  split at h
  · rename_i c
    split at h
    · rename_i hn
      obtain rfl := hc c rfl
      obtain rfl := nilV_eq hn
      have key : ∀ (T : Nat) (xs sp : List AV) (ex : Bool), ax = .sl T xs sp ex → xs.length ≠ 0 → ∃ a n k, u = .slice (some a) n k := by
        intro T xs sp ex e hl
        subst e
        simp only [rep] at hx
        obtain ⟨a, cap, hu, _, _, _, _, _, _, _, h5⟩ := hx
        obtain ⟨b, off, c, fz, ha, _⟩ := h5 (by omega)
        exact ⟨_, _, _, by rw [hu, ha]⟩
      split at h
      · rename_i T xs sp ex
        split at h
        · rename_i hl
          cases h
          obtain ⟨a, n, k, rfl⟩ := key _ _ _ _ rfl hl.1
          obtain ⟨e, he⟩ := Option.isSome_iff_exists.1 hl.2
          exact ⟨.bool false, by simp [eqGuard, binOp, run_equal_nil he], by simp [rep]⟩
        · cases h
      · rename_i T xs sp ex
        split at h
        · rename_i hl
          cases h
          obtain ⟨a, n, k, rfl⟩ := key _ _ _ _ rfl hl.1
          obtain ⟨e, he⟩ := Option.isSome_iff_exists.1 hl.2
          exact ⟨.bool true, by simp [eqGuard, binOp, run_equal_nil he], by simp [rep]⟩
        · cases h
      · cases h
    · exact bin_sound hb h hx hy
  · exact bin_sound hb h hx hy
theorem un_sound {P : Program} {E : Env} {op : UnOp} {ax z : AV} {u : Value} {w : World} (h : unA op ax = some z) (hx : rep P E ax u) :
    ∃ r, (Op.unary op u).run P w = .ok r w ∧ rep P E z r := by
  unfold unA at h
  split at h
  · cases rep_int hx; cases h; exact ⟨_, rfl, by simp [rep]⟩
  · cases rep_bool hx; cases h; exact ⟨_, rfl, by simp [rep]⟩
  · simp at h
theorem conv_sound {P : Program} {E : Env} {src dst : TypeId} {ax z : AV} {u : Value} {w : World} (hs : (P.underlying src).isSome) (h : convA P dst ax = some z) (hx : rep P E ax u) :
    ∃ r, (convert src dst u).run P w = .ok r w ∧ rep P E z r := by
  obtain ⟨ds, hs⟩ := Option.isSome_iff_exists.1 hs
  unfold convA at h
  split at h
  · rename_i k k' n hd
    cases rep_int hx; cases h
    exact ⟨.int k (k.wrap n), by simp [convert, run_underlying hs, run_underlying hd, Conv.intToInt], by simp [rep]⟩
  · rename_i s hd
    cases rep_str hx; cases h
    refine ⟨.string ⟨s.toArray⟩, by simp [convert, run_underlying hs, run_underlying hd], by simp [rep]⟩
  · simp at h
theorem ldA_get {P : Program} {E : Env} {t : Nat} {cs : List AV} {vs : List Value} {j : Nat} {z : AV} {w : World} {d : TypeDesc} {i : TypeInfo}
    (hd : P.underlying t = some d) (hi : P.info? t = some i) (h : partA P t cs j = some z) (hv : repL P E cs vs) :
    ∃ r, (part t vs.toArray j).run P w = .ok r w ∧ rep P E z r := by
  unfold partA at h
  by_cases ha : aggT P t
  · rw [if_pos ha] at h
    split at h
    · rename_i hle; cases h
      refine ⟨.agg (vs.toArray.extract j (j + szT P t)), ?_, ?_⟩
      · unfold part isAgg
        have : d matches .struct _ ∨ d matches .array .. := by
          simp only [aggT, hd] at ha
          cases d <;> simp_all
        simp only [Sem.run_bind, run_underlying hd, Result.andThen_ok, run_sizeOf hi]
        cases d <;> simp_all [go_sem, run_sizeOf hi]
      · simp only [rep]
        refine ⟨(vs.drop j).take (szT P t), ?_, repL_take (repL_drop hv j) _⟩
        simp [List.extract_eq_take_drop]
    · simp at h
  · rw [if_neg ha] at h
    obtain ⟨r, hr, hrep⟩ := repL_get hv j z h
    refine ⟨r, ?_, hrep⟩
    unfold part isAgg
    simp only [Sem.run_bind, run_underlying hd, Result.andThen_ok]
    simp only [aggT, hd] at ha
    cases d <;> simp_all [go_sem]
theorem extract_sound {P : Program} {E : Env} {vs : List AV} {u : Value} {i : Nat} {z : AV} {w : World} (hx : rep P E (.tup vs) u) (h : vs[i]? = some z) :
  ∃ r, (Instr.extract u i).run P w = .ok r w ∧ rep P E z r := by
 simp only [rep] at hx
 obtain ⟨us, rfl, h2⟩ := hx
 obtain ⟨r, hr, hrep⟩ := repL_get h2 i z h
 exact ⟨r, by simp [Instr.extract, hr, go_sem], hrep⟩
theorem repL_map {P : Program} {E : Env} {st : St} {a : Act} (hf : ∀ t, rep P E (st.fr t) (a.tmps.getD t undef)) : ∀ xs : List Operand, repL P E (xs.map st.ev) (xs.map a.eval)
 | [] => by simp [repL]
 | x :: xs => by simp only [List.map_cons, repL]; exact ⟨_, _, rfl, rep_ev hf x, repL_map hf xs⟩
theorem idxStr_sound {P : Program} {E : Env} {t : TypeId} {s : List UInt8} {u v : Value} {k : IntKind} {i : Int} {b : UInt8} {w : World} (ht : P.underlying t = some .string)
    (hx : rep P E (.str s) u) (hi : rep P E (.int k i) v) (h0 : 0 ≤ i) (h : s[i.toNat]? = some b) :
    (Instr.index t u v).run P w = .ok (.int .u8 b.toNat) w := by
  cases rep_str hx; cases rep_int hi
  have hg : (ByteArray.mk s.toArray)[i.toNat]? = some b := by
    have : i.toNat < s.length := by
      rcases Nat.lt_or_ge i.toNat s.length with h' | h'
      · exact h'
      · rw [List.getElem?_eq_none h'] at h; cases h
    rw [List.getElem?_eq_getElem this] at h
    rw [getElem?_pos _ _ (by show i.toNat < (ByteArray.mk s.toArray).size; simpa [ByteArray.size] using this)]
    cases h; rfl
  simp only [Instr.index, asIntOf, Sem.run_bind, Sem.run_pure, Result.andThen_ok, run_underlying ht]
  rw [if_pos h0, hg]
  rfl
theorem bnd_sound {P : Program} {E : Env} {ax : AV} {u : Value} {y l : Nat} {c : BoundsCode} {w : World} (h : bndA ax y = some l) (hx : rep P E ax u) :
    (Instr.sliceBound u y c).run P w = .ok l w := by
  unfold bndA at h
  split at h
  · split at h
    · rename_i hc; cases h; cases rep_int hx
      simp only [Instr.sliceBound, asIntOf, Sem.run_bind, Sem.run_pure, Result.andThen_ok]
      rw [if_pos hc]; rfl
    · simp at h
  · simp at h
theorem bounds_sound {P : Program} {E : Env} {lo hi : Option AV} {ulo uhi : Option Value} {len cap l h : Nat} {is : Bool} {w : World} (hb : bounds2 len cap lo hi = some (l, h))
  (hlo : ∀ x, lo = some x → ∃ u, ulo = some u ∧ rep P E x u) (hlo' : lo = none → ulo = none) (hhi : ∀ x, hi = some x → ∃ u, uhi = some u ∧ rep P E x u) (hhi' : hi = none → uhi = none) :
  (Instr.sliceBounds is len cap ulo uhi none).run P w = .ok (l, h, cap) w := by
 unfold bounds2 at hb
 cases hi with
 | none =>
  rw [hhi' rfl]
  simp only at hb
  cases lo with
  | none => rw [hlo' rfl]; simp at hb; obtain ⟨rfl, rfl⟩ := hb; simp [Instr.sliceBounds]
  | some x =>
   obtain ⟨u, rfl, hr⟩ := hlo x rfl
   simp only [Option.map_eq_some_iff, Prod.mk.injEq] at hb
   obtain ⟨a, ha, rfl, rfl⟩ := hb
   simp [Instr.sliceBounds, bnd_sound ha hr]
 | some y =>
  obtain ⟨v, rfl, hr'⟩ := hhi y rfl
  simp only at hb
  cases hy : bndA y cap with
  | none => rw [hy] at hb; simp at hb
  | some h' =>
   rw [hy] at hb
   cases lo with
   | none => rw [hlo' rfl]; simp at hb; obtain ⟨rfl, rfl⟩ := hb; simp [Instr.sliceBounds, bnd_sound hy hr']
   | some x =>
    obtain ⟨u, rfl, hr⟩ := hlo x rfl
    simp only [Option.map_eq_some_iff, Prod.mk.injEq] at hb
    obtain ⟨a, ha, rfl, rfl⟩ := hb
    simp [Instr.sliceBounds, bnd_sound hy hr', bnd_sound ha hr]
theorem bounds_mono {len cap cap' : Nat} {lo hi : Option AV} {p : Nat × Nat} (hb : bounds2 len cap lo hi = some p) (hle : cap ≤ cap') : bounds2 len cap' lo hi = some p := by
  unfold bounds2 at hb ⊢
  cases hi with
  | none => exact hb
  | some y =>
    simp only at hb ⊢
    cases hy : bndA y cap with
    | none => rw [hy] at hb; simp at hb
    | some k =>
      have : bndA y cap' = some k := by
        unfold bndA at hy ⊢
        split at hy
        · split at hy
          · rename_i hc; rw [if_pos (by omega)]; exact hy
          · cases hy
        · cases hy
      rw [hy] at hb; rw [this]; exact hb
theorem bounds_le {len cap l h : Nat} {lo hi : Option AV} (hb : bounds2 len cap lo hi = some (l, h)) (hle : len ≤ cap) : l ≤ h ∧ h ≤ cap := by
  unfold bounds2 at hb
  have hbnd : ∀ {x : AV} {y i : Nat}, bndA x y = some i → i ≤ y := by
    intro x y i hx
    unfold bndA at hx
    split at hx
    · split at hx
      · cases hx; omega
      · simp at hx
    · simp at hx
  cases hi with
  | none =>
    simp only at hb
    cases lo with
    | none => simp at hb; omega
    | some x => simp only [Option.map_eq_some_iff, Prod.mk.injEq] at hb; obtain ⟨a, ha, rfl, rfl⟩ := hb; exact ⟨hbnd ha, hle⟩
  | some y =>
    simp only at hb
    cases hy : bndA y cap with
    | none => rw [hy] at hb; simp at hb
    | some h' =>
      rw [hy] at hb
      have := hbnd hy
      cases lo with
      | none => simp at hb; omega
      | some x => simp only [Option.map_eq_some_iff, Prod.mk.injEq] at hb; obtain ⟨a, ha, rfl, rfl⟩ := hb; exact ⟨hbnd ha, this⟩
theorem add_at (b off n : Nat) : (⟨b, off, none⟩ : Addr).add n = ⟨b, off + n, none⟩ := by unfold Addr.add; split <;> simp_all
theorem cell_at {w : World} {b o : Nat} {c : Array Value} {t : TypeId} {fz : Nat × Nat} (h : w.heap[b]? = some (.cells c t fz)) : w.cell? ⟨b, o, none⟩ = c[o]? := by
 simp [World.cell?, h]
theorem run_szT {P : Program} {w : World} {t : TypeId} (h : (P.info? t).isSome) : (sizeOf t).run P w = .ok (szT P t) w := by
 obtain ⟨i, hi⟩ := Option.isSome_iff_exists.1 h
 exact run_sizeOf hi
theorem okT_parts {P : Program} {t : Nat} (h : okT P t = true) : ∃ d i, P.underlying t = some d ∧ P.info? t = some i := by
 simp only [okT, Bool.and_eq_true] at h
 obtain ⟨d, hd⟩ := Option.isSome_iff_exists.1 h.1
 obtain ⟨i, hi⟩ := Option.isSome_iff_exists.1 h.2
 exact ⟨d, i, hd, hi⟩
theorem elT_und {P : Program} {t e : Nat} (h : elT P t = some e) : P.underlying t = some (.slice e) := by
  unfold elT at h
  split at h
  · rename_i e' he; cases h; exact he
  · cases h
theorem strT_und {P : Program} {t : Nat} (h : strT P t = true) : P.underlying t = some .string := by
  unfold strT at h
  split at h
  · rename_i he; exact he
  · cases h
theorem boolT_und {P : Program} {t : Nat} (h : boolT P t = true) : P.underlying t = some .bool := by
  unfold boolT at h
  split at h
  · rename_i he; exact he
  · cases h
theorem loadVar_sound {P : Program} {E : Env} {t b o j : Nat} {c : Array Value} {t' : TypeId} {fz : Nat × Nat} {cs : List AV} {L : List Value} {z : AV} (hok : okT P t = true)
    (hb : E.w.heap[b]? = some (.cells c t' fz)) (hL : ∀ k v, L[k]? = some v → c[o + k]? = some v) (hr : repL P E cs L) (h : partA P t cs j = some z) :
    ∃ r, (loadVar t ⟨b, o + j, none⟩).run P E.w = .ok r E.w ∧ rep P E z r := by
  obtain ⟨d, i, hd, hi⟩ := okT_parts hok
  unfold partA at h
  by_cases ha : aggT P t
  · rw [if_pos ha] at h
    split at h
    · rename_i hle; cases h
      have hlen : ((L.drop j).take (szT P t)).length = szT P t := by
        rw [List.length_take, List.length_drop, repL_length hr]; omega
      have hload : (loadCells ⟨b, o + j, none⟩ (szT P t)).run P E.w = .ok ((L.drop j).take (szT P t)).toArray E.w := by
        have := run_loadCells_list (P := P) E.w ⟨b, o + j, none⟩ ((L.drop j).take (szT P t)) (fun k v hk => by
          rw [List.getElem?_take] at hk
          split at hk
          · rw [List.getElem?_drop] at hk
            rw [add_at, cell_at hb, Nat.add_assoc]
            exact hL _ _ hk
          · cases hk)
        rwa [hlen] at this
      refine ⟨.agg ((L.drop j).take (szT P t)).toArray, ?_, ?_⟩
      · unfold loadVar isAgg
        simp only [Sem.run_bind, run_underlying hd, Result.andThen_ok]
        simp only [aggT, hd] at ha
        cases d <;> simp_all [go_sem, run_sizeOf hi]
      · simp only [rep]
        exact ⟨_, rfl, repL_take (repL_drop hr j) _⟩
    · simp at h
  · rw [if_neg ha] at h
    obtain ⟨r, hr', hrep⟩ := repL_get hr j z h
    refine ⟨r, ?_, hrep⟩
    have hc : E.w.cell? ⟨b, o + j, none⟩ = some r := by rw [cell_at hb]; exact hL _ _ hr'
    unfold loadVar isAgg
    simp only [Sem.run_bind, run_underlying hd, Result.andThen_ok]
    simp only [aggT, hd] at ha
    cases d <;> simp_all [go_sem]
theorem load_sound {P : Program} {E : Env} {st : St} {t : Nat} {ax z : AV} {u : Value} (hE : Ok P E) (hh : st.h = E.h) (hok : okT P t = true) (h : loadA P st t ax = some z) (hx : rep P E ax u) :
    ∃ r, (Instr.loadAt t u).run P E.w = .ok r E.w ∧ rep P E z r := by
  unfold loadA at h
  split at h
  · rename_i t' x j
    simp only [rep] at hx
    obtain ⟨b, off, c, fz, v, rfl, _, hb, hv, hsz, hc⟩ := hx
    obtain ⟨r, h1, h2⟩ := loadVar_sound (L := v.cells.toList) (o := off) (cs := x.cells) hok hb (fun k y hk => by
      have := (hc 0 v rfl).2 k y (by simpa using hk)
      simpa using this) (rep_cells hv hsz) h
    exact ⟨r, by simp [Instr.loadAt, Instr.sureAddr, h1], h2⟩
  · rename_i id n i j
    split at h
    · rename_i hlv
      rw [hh] at hlv h
      obtain ⟨hlv, hn⟩ := hlv
      simp only [rep] at hx
      obtain ⟨_, _, ad, rfl, had⟩ := hx
      cases had hlv hn
      cases hxi : (E.h id).xs[i]? with
      | none => rw [hxi] at h; simp at h
      | some x =>
        rw [hxi] at h
        simp only [Option.bind_some] at h
        have B := hE.blk id hlv
        obtain ⟨c, vs, hb, hrl, hca, _⟩ := B.at_
        obtain ⟨v, hvi, hv⟩ := repL_get hrl i x hxi
        have hcl := B.cl x (List.mem_of_getElem? hxi)
        obtain ⟨hs1, hs2⟩ := hca i v hvi
        obtain ⟨r, h1, h2⟩ := loadVar_sound (L := v.cells.toList) (o := (E.m id).base + i * szT P (E.h id).t) (cs := x.cells) hok hb (fun k y hk => hs2 k y (by simpa using hk)) (rep_cells hv (by rw [hs1, el_len hcl])) h
        exact ⟨r, by simp [Instr.loadAt, Instr.sureAddr, h1], h2⟩
    · simp at h
  · simp at h
theorem len_sound {P : Program} {E : Env} {st : St} {t ty : Nat} {ax : AV} {u : Value} {n : Int} {w : World} (ht : lenT P t ax = true) (h : lenA st ax = some n) (hx : rep P E ax u) :
    (Builtin.len_ #[t] ty #[u]).run P w = .ok (.int .i64 n) w := by
  unfold lenA at h
  split at h <;> simp only [lenT] at ht
  · cases rep_str hx; cases h
    simp only [Builtin.len_, List.getElem?_toArray, List.getElem?_cons_zero, Sem.run_bind, run_underlying (strT_und ht), Result.andThen_ok]
    simp [goInt, ByteArray.size]
  · obtain ⟨e, he⟩ := Option.isSome_iff_exists.1 ht
    simp only [rep] at hx; obtain ⟨a, rfl⟩ := hx; cases h
    simp [Builtin.len_, run_underlying (elT_und he), goInt]
  · obtain ⟨e, he⟩ := Option.isSome_iff_exists.1 ht
    simp only [rep] at hx; obtain ⟨a, cap, rfl, _⟩ := hx; cases h
    simp [Builtin.len_, run_underlying (elT_und he), goInt]
  · obtain ⟨e, he⟩ := Option.isSome_iff_exists.1 ht
    simp only [rep] at hx; obtain ⟨_, _, ad, k, rfl, _⟩ := hx
    split at h
    · cases h; simp [Builtin.len_, run_underlying (elT_und he), goInt]
    · cases h
  · simp at h
theorem CellsAt.get {c : Array Value} {off sz : Nat} {vs : List Value} (h : CellsAt c off sz vs) {i : Nat} {v : Value} (hi : vs[i]? = some v) : CellsAt c (off + i * sz) v.cells.size [v] := by
 intro k u hk
 cases k with
 | succ k => simp at hk
 | zero =>
  simp only [List.getElem?_cons_zero, Option.some.injEq] at hk
  subst hk
  refine ⟨rfl, fun j y hj => ?_⟩
  have := (h i v hi).2 j y hj
  simpa using this
theorem CellsAt.drop {c : Array Value} {off sz : Nat} {vs : List Value} (h : CellsAt c off sz vs) (n : Nat) : CellsAt c (off + n * sz) sz (vs.drop n) := by
 intro i v hi
 rw [List.getElem?_drop] at hi
 obtain ⟨h1, h2⟩ := h _ _ hi
 refine ⟨h1, fun j u hj => ?_⟩
 have := h2 j u hj
 rw [Nat.add_mul] at this
 rw [← this]; congr 1; omega
theorem CellsAt.take {c : Array Value} {off sz : Nat} {vs : List Value} (h : CellsAt c off sz vs) (n : Nat) : CellsAt c off sz (vs.take n) := by
  intro i v hi
  rw [List.getElem?_take] at hi
  split at hi
  · exact h _ _ hi
  · cases hi
theorem indexAddr_sound {P : Program} {E : Env} {st : St} {xt : Nat} {ax ai z : AV} {u v : Value} (hE : Ok P E) (hh : st.h = E.h) (h : indexAddrA P st xt ax ai = some z) (hx : rep P E ax u) (hi : rep P E ai v) :
    ∃ r, (Instr.indexAt xt u v).run P E.w = .ok r E.w ∧ rep P E z r := by
  unfold indexAddrA at h
  split at h
  · rename_i t xs sp ex k i
    split at h
    · rename_i hc
      obtain ⟨hel, hin, h0, hlt⟩ := hc
      cases rep_int hi
      simp only [Option.map_eq_some_iff] at h
      obtain ⟨x, hxi, rfl⟩ := h
      simp only [rep] at hx
      obtain ⟨a, cap, rfl, _, _, hcl, vs, us, hvs, hus, hne⟩ := hx
      have hlt' : i.toNat < xs.length := by omega
      obtain ⟨b, off, c, fz, rfl, hI, hb, hca⟩ := hne (by omega)
      obtain ⟨y, hy, hry⟩ := repL_get hvs _ _ hxi
      have hy' : (vs ++ us)[i.toNat]? = some y := by
        rw [List.getElem?_append_left (by rw [repL_length hvs]; exact hlt')]; exact hy
      obtain ⟨hs1, hs2⟩ := hca _ _ hy'
      refine ⟨.pointer (some ⟨b, off + i.toNat * szT P t, none⟩), ?_, ?_⟩
      · simp only [Instr.indexAt, asIntOf, Sem.run_bind, Sem.run_pure, Result.andThen_ok, run_underlying (elT_und hel)]
        rw [if_pos ⟨h0, hlt⟩]
        simp [run_szT hin, add_at]
      · simp only [rep, Nat.add_zero]
        exact ⟨b, off + i.toNat * szT P t, c, fz, y, rfl, hI, hb, hry, by rw [hs1]; exact el_len (hcl x (by rw [List.mem_append]; exact .inl (List.mem_of_getElem? hxi))), hca.get hy'⟩
    · cases h
  · rename_i id n off len k i
    split at h
    · rename_i hc
      rw [hh] at hc
      obtain ⟨hlv, hn, hel, hin, hle⟩ := hc
      split at h
      · rename_i hi'
        cases rep_int hi; cases h
        simp only [rep] at hx
        obtain ⟨hid, hnl, ad, kk, rfl, hx⟩ := hx
        obtain ⟨h1, h2, h3⟩ := hx hlv hn
        have B := hE.blk id hlv
        have hcap := B.le
        have : kk ≠ 0 := by omega
        cases h3 this
        refine ⟨.pointer (some ⟨(E.m id).b, (E.m id).base + off * szT P (E.h id).t + i.toNat * szT P (E.h id).t, none⟩), ?_, ?_⟩
        · simp only [Instr.indexAt, asIntOf, Sem.run_bind, Sem.run_pure, Result.andThen_ok, run_underlying (elT_und hel)]
          rw [if_pos hi']
          simp [run_szT hin, add_at]
        · simp only [rep]
          refine ⟨hid, hnl, _, rfl, fun _ _ => ?_⟩
          congr 1
          rw [Nat.add_mul]; omega
      · cases h
    · cases h
  · cases h
theorem slice_sound {P : Program} {E : Env} {st : St} {xt : Nat} {ax z : AV} {lo hi : Option AV} {ulo uhi : Option Value} {u : Value} (hE : Ok P E) (hh : st.h = E.h) (h : sliceA P st xt ax lo hi none = some z) (hx : rep P E ax u)
    (hlo : ∀ x, lo = some x → ∃ u, ulo = some u ∧ rep P E x u) (hlo' : lo = none → ulo = none) (hhi : ∀ x, hi = some x → ∃ u, uhi = some u ∧ rep P E x u) (hhi' : hi = none → uhi = none) :
    ∃ r, (Instr.sliceAt xt u ulo uhi none).run P E.w = .ok r E.w ∧ rep P E z r := by
  unfold sliceA at h
  simp only at h
  split at h
  · rename_i s
    split at h
    · rename_i hst
      simp only [Option.map_eq_some_iff] at h
      obtain ⟨⟨l, k⟩, hb, rfl⟩ := h
      cases rep_str hx
      have hbs := bounds_sound (is := false) (w := E.w) hb hlo hlo' hhi hhi'
      have hsz : (ByteArray.mk s.toArray).size = s.length := by simp [ByteArray.size]
      refine ⟨.string ⟨((s.take k).drop l).toArray⟩, ?_, by simp [rep]⟩
      have he : (ByteArray.mk s.toArray).extract l k = ⟨((s.take k).drop l).toArray⟩ := by
        apply ByteArray.ext
        simp [ByteArray.data_extract, List.extract_eq_take_drop]
        rw [List.drop_take]
      simp only [Instr.sliceAt, Instr.slice, Sem.run_bind, run_underlying (strT_und hst), Result.andThen_ok, Option.isSome_none, Bool.false_eq_true, if_false, hsz]
      simp [hbs, he]
    · cases h
  · split at h
    · rename_i hel
      obtain ⟨i, hi'⟩ := Option.isSome_iff_exists.1 hel
      obtain ⟨e, he, hi''⟩ := Option.bind_eq_some_iff.1 hi'
      simp only [Option.map_eq_some_iff] at h
      obtain ⟨⟨l, k⟩, hb, rfl⟩ := h
      simp only [rep] at hx
      obtain ⟨a, rfl⟩ := hx
      have hbs := bounds_sound (is := true) (w := E.w) hb hlo hlo' hhi hhi'
      have hle := bounds_le hb (Nat.le_refl _)
      obtain ⟨rfl⟩ : k = 0 := by omega
      obtain ⟨rfl⟩ : l = 0 := by omega
      refine ⟨.slice a 0 0, ?_, by simp [rep]⟩
      simp [Instr.sliceAt, Instr.slice, run_underlying (elT_und he), hbs, run_sizeOf hi'']
    · cases h
  · rename_i t xs sp ex
    split at h
    · rename_i hc
      obtain ⟨hel, hin⟩ := hc
      simp only [Option.map_eq_some_iff] at h
      obtain ⟨⟨l, k⟩, hb, rfl⟩ := h
      simp only [rep] at hx
      obtain ⟨a, cap, rfl, hcap, hex, hcl, vs, us, hvs, hus, hne⟩ := hx
      have hle := bounds_le hb (Nat.le_add_right _ _)
      have hbs := bounds_sound (is := true) (w := E.w) (bounds_mono hb hcap) hlo hlo' hhi hhi'
      have hln : (vs ++ us).length = xs.length + sp.length := by rw [List.length_append, repL_length hvs, repL_length hus]
      have hl1 : (((xs ++ sp).take k).drop l).length = k - l := by
        rw [List.length_drop, List.length_take, List.length_append]; omega
      have hl2 : ((xs ++ sp).drop k).length = xs.length + sp.length - k := by rw [List.length_drop, List.length_append]
      refine ⟨.slice (if cap = l then a else a.map (·.add (l * szT P t))) (k - l) (cap - l), ?_, ?_⟩
      · simp only [Instr.sliceAt, Instr.slice, Sem.run_bind, run_underlying (elT_und hel), Result.andThen_ok, hbs, run_szT hin]
        simp
      · have hall := repL_append hvs hus
        cases ex with
        | true =>
          simp only [rep, if_true]
          refine ⟨_, cap - l, by rw [hl1], by rw [hl1, hl2]; omega, fun _ => by rw [hl1, hl2, hex rfl]; omega, ?_, ((vs ++ us).take k).drop l, (vs ++ us).drop k, repL_drop (repL_take hall k) l, repL_drop hall k, fun hn => ?_⟩
          · intro x hx
            refine hcl x ?_
            rcases List.mem_append.1 hx with h | h
            · exact List.mem_of_mem_take (List.mem_of_mem_drop h)
            · exact List.mem_of_mem_drop h
          · rw [hl1, hl2] at hn
            obtain ⟨b, off, c, fz, rfl, hI, hb', hca⟩ := hne (by omega)
            refine ⟨b, off + l * szT P t, c, fz, ?_, hI, hb', ?_⟩
            · rw [if_neg (by omega)]; simp [add_at]
            · have hj : ((vs ++ us).take k).drop l ++ (vs ++ us).drop k = (vs ++ us).drop l := by
                have h2 := List.take_append_drop (k - l) ((vs ++ us).drop l)
                rw [List.drop_drop, show l + (k - l) = k by omega] at h2
                rw [List.drop_take]; exact h2
              rw [hj]
              exact hca.drop l
        | false =>
          show rep P E (.sl t (((xs ++ sp).take k).drop l) [] false) _
          simp only [rep]
          refine ⟨_, cap - l, by rw [hl1], by rw [hl1]; simp only [List.length_nil]; omega, (fun h => by cases h), ?_, ((vs ++ us).take k).drop l, [], repL_drop (repL_take hall k) l, by simp [repL], fun hn => ?_⟩
          · intro x hx
            rw [List.append_nil] at hx
            exact hcl x (List.mem_of_mem_take (List.mem_of_mem_drop hx))
          · rw [hl1] at hn
            simp only [List.length_nil, Nat.add_zero] at hn
            obtain ⟨b, off, c, fz, rfl, hI, hb', hca⟩ := hne (by omega)
            refine ⟨b, off + l * szT P t, c, fz, ?_, hI, hb', ?_⟩
            · rw [if_neg (by omega)]; simp [add_at]
            · rw [List.append_nil]
              exact (hca.take k).drop l
    · cases h
  · rename_i id n off len
    split at h
    · rename_i hc
      obtain ⟨hlv, hn, hel, hin⟩ := hc
      rw [hh] at hlv hn
      simp only [Option.map_eq_some_iff] at h
      obtain ⟨⟨l, k⟩, hb, rfl⟩ := h
      simp only [rep] at hx
      obtain ⟨hid, hnl, ad, kk, rfl, hx⟩ := hx
      obtain ⟨h1, h2, h3⟩ := hx hlv hn
      have B := hE.blk id hlv
      have hcap := B.le
      have hle := bounds_le hb (by omega)
      have hbs := bounds_sound (is := true) (w := E.w) (bounds_mono hb (show n - off ≤ kk by omega)) hlo hlo' hhi hhi'
      refine ⟨.slice (if kk = l then some ad else (some ad).map (·.add (l * szT P (E.h id).t))) (k - l) (kk - l), ?_, ?_⟩
      · rw [hh] at hel hin
        simp only [Instr.sliceAt, Instr.slice, Sem.run_bind, run_underlying (elT_und hel), Result.andThen_ok, hbs, run_szT hin]
        simp
      · simp only [rep]
        refine ⟨hid, hnl, (if kk = l then ad else ad.add (l * szT P (E.h id).t)), kk - l, ?_, fun _ _ => ⟨by omega, by omega, fun hk => ?_⟩⟩
        · split <;> rfl
        · rw [if_neg (by omega)]
          cases h3 (by omega)
          rw [add_at, Nat.add_mul, Nat.add_assoc]
    · cases h
  · cases h
theorem slice3_run {P : Program} {w : World} {xt t : Nat} {a : Option Addr} {len cap : Nat} {k k' : IntKind} (he : elT P xt = some t) (hi : (P.info? t).isSome) : (Instr.sliceAt xt (.slice a len cap) none (some (.int k 0)) (some (.int k' 0))).run P w = .ok (.slice a 0 0) w := by
 simp [Instr.sliceAt, Instr.slice, Instr.sliceBounds, Instr.sliceBound, asIntOf, run_underlying (elT_und he), run_szT hi]
theorem slice3_sound {P : Program} {E : Env} {st : St} {xt : Nat} {ax z : AV} {lo hi : Option AV} {m : AV} {ulo uhi : Option Value} {um u : Value} (hE : Ok P E) (hh : st.h = E.h) (h : sliceA P st xt ax lo hi (some m) = some z) (hx : rep P E ax u)
    (hlo' : lo = none → ulo = none) (hhi : ∀ x, hi = some x → ∃ u, uhi = some u ∧ rep P E x u) (hm : rep P E m um) :
    ∃ r, (Instr.sliceAt xt u ulo uhi (some um)).run P E.w = .ok r E.w ∧ rep P E z r := by
  unfold sliceA at h
  simp only at h
  split at h
  · rename_i hc
    obtain ⟨c1, c2, c3⟩ := hc
    have hz : ∀ (x : AV) (v : Value), zeroI x = true → rep P E x v → ∃ k, v = .int k 0 := by
      intro x v hz hv
      cases x <;> simp [zeroI] at hz
      subst hz
      simp only [rep] at hv
      exact ⟨_, hv⟩
    obtain ⟨k', rfl⟩ := hz m um c3 hm
    cases lo with
    | some _ => simp at c1
    | none =>
    rw [hlo' rfl]
    cases hi with
    | none => simp at c2
    | some y =>
    obtain ⟨v, rfl, hv⟩ := hhi y rfl
    simp only [Option.map_some, Option.some.injEq] at c2
    obtain ⟨k, rfl⟩ := hz y v c2 hv
    split at h
    · split at h
      · rename_i hel
        obtain ⟨i, hi'⟩ := Option.isSome_iff_exists.1 hel
        obtain ⟨e, he, hi''⟩ := Option.bind_eq_some_iff.1 hi'
        cases h
        simp only [rep] at hx
        obtain ⟨a, rfl⟩ := hx
        exact ⟨_, slice3_run he (by rw [hi'']; rfl), by simp [rep]⟩
      · cases h
    · split at h
      · rename_i hc
        cases h
        simp only [rep] at hx
        obtain ⟨a, cap, rfl, _⟩ := hx
        exact ⟨_, slice3_run hc.1 hc.2, by simp [rep, repL]⟩
      · cases h
    · split at h
      · rename_i hc
        cases h
        simp only [rep] at hx
        obtain ⟨_, _, ad, kk, rfl, _⟩ := hx
        exact ⟨_, slice3_run hc.2.2.1 hc.2.2.2, by simp [rep, repL]⟩
      · cases h
    · cases h
  · cases h
def pushW (w : World) (o : Obj) : World := { w with heap := w.heap.push o }
theorem pushW_old {w : World} {o : Obj} {b : Nat} (h : b < w.heap.size) : (pushW w o).heap[b]? = w.heap[b]? := by
 simp only [pushW]; rw [Array.getElem?_push]; split <;> simp_all
theorem pushW_new {w : World} {o : Obj} : (pushW w o).heap[w.heap.size]? = some o := by
 show (w.heap.push o)[w.heap.size]? = some o
 simp
theorem pushW_size {w : World} {o : Obj} : (pushW w o).heap.size = w.heap.size + 1 := by simp [pushW]
theorem lt_of_heap {w : World} {b : Nat} {o : Obj} (h : w.heap[b]? = some o) : b < w.heap.size := by
  rcases Nat.lt_or_ge b w.heap.size with h' | h'
  · exact h'
  · rw [Array.getElem?_eq_none h'] at h; cases h
theorem upd_ne {α : Type} (f : Nat → α) {i j : Nat} (v : α) (h : j ≠ i) : upd f i v j = f j := by simp [upd, h]
theorem BlkOk.move {P : Program} {E E' : Env} {id : Nat} (B : BlkOk P E id) (hLe : E.Le E') (hh : E'.h id = E.h id) (hm : E'.m id = E.m id) (hw : E'.w.heap[(E.m id).b]? = E.w.heap[(E.m id).b]?)
    (hI : ¬ E'.I (E.m id).b) : BlkOk P E' id := by
  obtain ⟨c, vs, h1, h2, h3, h4⟩ := B.at_
  refine ⟨Nat.lt_of_lt_of_le B.lt hLe.nx, ?_, ?_, ?_, ?_, ?_, ⟨c, vs, ?_, ?_, ?_, ?_⟩⟩
  · rw [hh, hm]; exact B.gr
  · rw [hh, hm]; exact B.ex
  · rw [hh, hm]; exact B.le
  · rw [hh]; exact B.cl
  · rw [hm]; exact hI
  · rw [hm, hw, hh]; exact h1
  · rw [hh]; exact repL_mono hLe _ _ h2
  · rw [hm, hh]; exact h3
  · rw [hm, hh]; exact h4
theorem new_priv {P : Program} {E : Env} (hE : Ok P E) (c : Array Value) (e : Nat) (xs : List AV) (vs : List Value) (cap : Nat) (ex gr : Bool) (hr : repL P E xs vs) (hc : CellsAt c 0 (szT P e) vs)
    (hcl : ∀ x ∈ xs, x.el P e = true) (hle : xs.length ≤ cap) (hex : ex = true → cap = xs.length) (hsz : cap * szT P e ≤ c.size) :
    let E' : Env := ⟨pushW E.w (.cells c e (0, 0)), E.I, upd E.m E.nx ⟨E.w.heap.size, 0, cap⟩, upd E.h E.nx ⟨e, xs, ex, gr, true⟩, E.nx + 1⟩
    E.Le E' ∧ Ok P E' ∧ Goes P E E' := by
  intro E'
  have hLe : E.Le E' := by
    refine ⟨Nat.le_succ _, fun b hb => ⟨hb, pushW_old (hE.imm b hb)⟩, fun id hid => ?_, fun id hid n _ h1 h2 => ?_⟩
    · simp [E', upd, Nat.ne_of_lt hid]
    · simp only [E', upd, Nat.ne_of_lt hid, if_false] at h1 h2 ⊢; exact ⟨h1, h2, by trivial, by trivial⟩
  have hlt : ∀ id, (E.h id).lv = true → id < E.nx := fun id h => (hE.blk id h).lt
  have hmb : ∀ id, (E.h id).lv = true → (E.m id).b < E.w.heap.size := fun id h => by
    obtain ⟨c, vs, h1, _⟩ := (hE.blk id h).at_; exact lt_of_heap h1
  refine ⟨hLe, ⟨fun id hlv => ?_, fun i j hi hj hij => ?_, fun b hb => Nat.lt_of_lt_of_le (hE.imm b hb) (by simp [E', pushW]), hE.tab.le hLe⟩, ?_⟩
  · by_cases hid : id = E.nx
    · subst hid
      refine ⟨by simp [E'], by simp [E', upd], by simpa [E', upd] using hex, by simpa [E', upd] using hle, by simpa [E', upd] using hcl, ?_, ⟨c, vs, ?_, ?_, ?_, ?_⟩⟩
      · simp only [E', upd, if_true]; exact fun h => Nat.lt_irrefl _ (hE.imm _ h)
      · simp only [E', upd, if_true]; exact pushW_new
      · simp only [E', upd, if_true]; exact repL_mono hLe _ _ hr
      · simpa [E', upd] using hc
      · simpa [E', upd] using hsz
    · simp only [E', upd, hid, if_false] at hlv
      refine (hE.blk id hlv).move hLe (by simp [E', upd, hid]) (by simp [E', upd, hid]) (pushW_old (hmb id hlv)) (hE.blk id hlv).dark
  · by_cases h1 : i = E.nx <;> by_cases h2 : j = E.nx
    · rw [h1, h2]
    · simp only [E', upd, h1, h2, if_true, if_false] at hi hj hij
      exact absurd (hmb j hj) (by omega)
    · simp only [E', upd, h1, h2, if_true, if_false] at hi hj hij
      exact absurd (hmb i hi) (by omega)
    · simp only [E', upd, h1, h2, if_false] at hi hj hij
      exact hE.inj i j hi hj hij
  · refine ⟨rfl, rfl, rfl, by simp [E', pushW], fun b hb _ => pushW_old hb, fun id hlv c' hc' => ⟨c', ?_, rfl, fun _ _ => rfl⟩, fun id hlv => ?_, fun b hb => .inl hb, Nat.le_succ _, fun id hid => by simp [E', upd, Nat.ne_of_lt hid]⟩
    · exact (pushW_old (hmb id hlv)).trans hc'
    · by_cases hid : id = E.nx
      · exact .inr ⟨by simp [E', upd, hid], .inl (by omega)⟩
      · simp only [E', upd, hid, if_false, Env.lim] at hlv ⊢; exact .inl ⟨hlv, by trivial, by trivial, by trivial⟩
theorem new_imm {P : Program} {E : Env} (hE : Ok P E) (o : Obj) :
    let E' : Env := ⟨pushW E.w o, fun b => E.I b ∨ b = E.w.heap.size, E.m, E.h, E.nx⟩
    E.Le E' ∧ Ok P E' ∧ Goes P E E' := by
  intro E'
  have hLe : E.Le E' := ⟨Nat.le_refl _, fun b hb => ⟨.inl hb, pushW_old (hE.imm b hb)⟩, fun _ _ => Nat.le_refl _, fun _ _ _ _ h1 h2 => ⟨h1, h2, rfl, rfl⟩⟩
  have hmb : ∀ id, (E.h id).lv = true → (E.m id).b < E.w.heap.size := fun id h => by
    obtain ⟨c, vs, h1, _⟩ := (hE.blk id h).at_; exact lt_of_heap h1
  refine ⟨hLe, ⟨fun id hlv => ?_, fun i j hi hj hij => hE.inj i j hi hj hij, fun b hb => ?_, hE.tab.le hLe⟩, ?_⟩
  · refine (hE.blk id hlv).move hLe rfl rfl (pushW_old (hmb id hlv)) ?_
    rintro (h | h)
    · exact (hE.blk id hlv).dark h
    · exact absurd (hmb id hlv) (by omega)
  · show b < (pushW E.w o).heap.size
    rw [pushW_size]
    rcases hb with h | h
    · exact Nat.lt_succ_of_lt (hE.imm b h)
    · omega
  · refine ⟨rfl, rfl, rfl, by simp [E', pushW], fun b hb _ => pushW_old hb, fun id hlv c' hc' => ⟨c', (pushW_old (hmb id hlv)).trans hc', rfl, fun _ _ => rfl⟩, fun id hlv => .inl ⟨hlv, rfl, rfl, rfl⟩, fun b hb => ?_, Nat.le_refl _, fun _ _ => rfl⟩
    rcases hb with h | h
    · exact .inl h
    · exact .inr (by omega)
theorem CellsAt.mk_flat (sz : Nat) : ∀ (vs : List Value), (∀ v ∈ vs, v.cells.size = sz) → CellsAt (vs.flatMap fun v => v.cells.toList).toArray 0 sz vs
  | [], _ => by intro i v h; simp at h
  | x :: xs, h => by
    intro i v hi
    have hx := h x (by simp)
    cases i with
    | zero =>
      simp only [List.getElem?_cons_zero, Option.some.injEq] at hi; subst hi
      refine ⟨hx, fun j u hj => ?_⟩
      simp only [List.flatMap_cons, List.getElem?_toArray, Nat.zero_mul, Nat.zero_add]
      rw [List.getElem?_append_left (by
        have : j < x.cells.size := by
          rcases Nat.lt_or_ge j x.cells.size with h | h
          · exact h
          · rw [Array.getElem?_eq_none h] at hj; cases hj
        simpa using this)]
      simpa using hj
    | succ i =>
      simp only [List.getElem?_cons_succ] at hi
      obtain ⟨h1, h2⟩ := CellsAt.mk_flat sz xs (fun v hv => h v (by simp [hv])) i v hi
      refine ⟨h1, fun j u hj => ?_⟩
      have := h2 j u hj
      simp only [List.flatMap_cons, List.getElem?_toArray, Nat.zero_add] at this ⊢
      rw [List.getElem?_append_right (by simp [hx]; rw [Nat.add_mul]; omega)]
      rw [← this]; congr 1
      simp [hx]; rw [Nat.add_mul]; omega
theorem CellsAt.mk_replicate (sz n : Nat) (v : Value) (h : v.cells.size = sz) : CellsAt ((Array.range (n * sz)).map (v.cells[· % v.cells.size]!)) 0 sz (List.replicate n v) := by
  intro i u hi
  rw [List.getElem?_replicate] at hi
  split at hi
  · rename_i hin; cases hi
    refine ⟨h, fun j x hj => ?_⟩
    have hj' : j < sz := by
      rcases Nat.lt_or_ge j v.cells.size with h' | h'
      · omega
      · rw [Array.getElem?_eq_none h'] at hj; cases hj
    have hlt : i * sz + j < n * sz := by
      have : (i + 1) * sz ≤ n * sz := Nat.mul_le_mul_right _ hin
      rw [Nat.add_mul] at this; omega
    have hmod : (i * sz + j) % sz = j := by
      rw [Nat.add_comm, Nat.add_mul_mod_self_right, Nat.mod_eq_of_lt hj']
    rw [Nat.zero_add, Array.getElem?_map, Array.getElem?_range, if_pos hlt]
    simp only [Option.map_some, h, hmod]
    rw [getElem!_pos v.cells j (by omega)]
    rw [Array.getElem?_eq_getElem (by omega)] at hj
    exact hj
  · cases hi
theorem run_zero {P : Program} {w : World} {t : TypeId} {z : Value} (h : (P.info? t).bind (·.zero) = some z) : (zeroValue t).run P w = .ok z w := by
  obtain ⟨i, hi, hz⟩ := Option.bind_eq_some_iff.1 h
  simp [zeroValue, run_typeInfo hi, hz]
theorem zeroA_val {P : Program} {t : Nat} {z : AV} (h : zeroA P t = some z) : ∃ v, (P.info? t).bind (·.zero) = some v ∧ z = ofVal v := by
  simp only [zeroA, Option.map_eq_some_iff] at h
  obtain ⟨v, hv, rfl⟩ := h
  exact ⟨v, hv, rfl⟩
theorem info_of_zero {P : Program} {t : Nat} {v : Value} (h : (P.info? t).bind (·.zero) = some v) : (P.info? t).isSome := by
  cases hi : P.info? t with
  | none => rw [hi] at h; simp at h
  | some i => rfl
theorem el_size {P : Program} {E : Env} {t : Nat} {x : AV} {v : Value} (h : rep P E x v) (he : x.el P t = true) : v.cells.size = szT P t := by
 rw [← el_len he]
 refine (rep_size h ?_).symm
 rintro rfl
 have := el_one he .undef (by simp [AV.cells])
 simp [AV.one] at this
theorem one_cells {x : AV} (h : x.one = true) : x.cells = [x] := by cases x <;> simp_all [AV.cells, AV.one]
def Does (P : Program) (E : Env) (s : Sem Value) (z : AV) (h' : Nat → Blk) (nx' : Nat) : Prop :=
 ∃ E' r, E'.h = h' ∧ E'.nx = nx' ∧ E.Le E' ∧ Ok P E' ∧ Goes P E E' ∧ s.run P E.w = .ok r E'.w ∧ rep P E' z r
theorem Does.same {P : Program} {E : Env} {s : Sem Value} {z : AV} (hE : Ok P E) (h : ∃ r, s.run P E.w = .ok r E.w ∧ rep P E z r) : Does P E s z E.h E.nx := by
 obtain ⟨r, h1, h2⟩ := h
 exact ⟨E, r, rfl, rfl, .refl E, hE, .refl P E, h1, h2⟩
theorem run_newRow {P : Program} {w : World} {e : TypeId} {c : Array Value} : (newRow e c).run P w = .ok ⟨w.heap.size, 0, none⟩ (pushW w (.cells c e (0, 0))) := by
 rfl
theorem CellsAt.one (v : Value) (sz : Nat) (h : v.cells.size = sz) : CellsAt v.cells 0 sz [v] := by
 intro i u hi
 cases i with
 | succ i => simp at hi
 | zero => simp only [List.getElem?_cons_zero, Option.some.injEq] at hi; subst hi; exact ⟨h, fun j x hj => by simpa using hj⟩
theorem wrap64_id {x : Int} (h1 : -9223372036854775808 ≤ x) (h2 : x < 9223372036854775808) : IntKind.i64.wrap x = x := by
 simp only [IntKind.wrap, IntKind.bits, IntKind.signed, Bool.true_and, Int.reducePow, Nat.reduceSub]
 split <;> rename_i h <;> simp only [ge_iff_le, decide_eq_true_eq] at h <;> omega
theorem box_sound {P : Program} {E : Env} {e : Nat} {x : AV} {v : Value} (hE : Ok P E) (he : x.el P e = true) (hx : rep P E x v) :
    Does P E (do pure (.pointer (some (← newVar e v)))) (.ptr E.nx 1 0 0) (upd E.h E.nx ⟨e, [x], true, false, true⟩) (E.nx + 1) := by
  have hsz := el_size hx he
  obtain ⟨h1, h2, h3⟩ := new_priv hE v.cells e [x] [v] 1 true false (by simp [repL, hx]) (CellsAt.one v _ hsz) (by simpa using he) (Nat.le_refl _) (fun _ => rfl) (by simp [hsz])
  refine ⟨_, .pointer (some ⟨E.w.heap.size, 0, none⟩), rfl, rfl, h1, h2, h3, ?_, ?_⟩
  · simp [newVar, run_newRow]
  · simp only [rep]
    exact ⟨by simp, by simp [upd], _, rfl, fun _ _ => by simp [upd]⟩
theorem make_sound {P : Program} {E : Env} {t e : Nat} {z : AV} {l c : Int} {k k' : IntKind} (hE : Ok P E) (ht : elT P t = some e) (hz : zeroA P e = some z) (he : z.el P e = true) (h0 : 0 ≤ l) (hlc : l ≤ c) (hb : c * (byT P e : Int) ≤ reach) (hc : c ≤ reach) :
    Does P E (Instr.makeSlice t (.int k l) (.int k' c)) (.ref E.nx c.toNat 0 l.toNat) (upd E.h E.nx ⟨e, List.replicate c.toNat z, true, true, true⟩) (E.nx + 1) := by
  obtain ⟨v, hv, rfl⟩ := zeroA_val hz
  have hr := rep_ofVal (P := P) (E := E) v
  have hsz := el_size hr he
  have hin := info_of_zero hv
  obtain ⟨i, hi⟩ := Option.isSome_iff_exists.1 hin
  have hby : byT P e = i.bytes := by simp [byT, hi]
  obtain ⟨h1, h2, h3⟩ := new_priv hE ((Array.range (c.toNat * szT P e)).map (v.cells[· % v.cells.size]!)) e (List.replicate c.toNat (ofVal v)) (List.replicate c.toNat v) c.toNat true true
    (repL_replicate _ hr) (CellsAt.mk_replicate _ _ v hsz) (fun x hx => by rw [List.eq_of_mem_replicate hx]; exact he) (by simp) (by simp) (by simp)
  refine ⟨_, .slice (some ⟨E.w.heap.size, 0, none⟩) l.toNat c.toNat, rfl, rfl, h1, h2, h3, ?_, ?_⟩
  · have hwl : IntKind.i64.wrap l = l := wrap64_id (by omega) (by unfold reach at hc; omega)
    have hwc : IntKind.i64.wrap c = c := wrap64_id (by omega) (by unfold reach at hc; omega)
    have hbig : ¬ ((i.bytes : Int) * c > 2 ^ 48) := by
      unfold reach at hb; rw [hby, Int.mul_comm] at hb; omega
    have hroom : ∀ n, (askRoom n).run P E.w = .ok () E.w := fun n => by unfold askRoom; split <;> rfl
    simp only [Instr.makeSlice, asInt, asIntOf, Sem.run_bind, run_underlying (elT_und ht), Result.andThen_ok, Sem.run_pure, run_typeInfo hi, hwl, hwc]
    have hcond : ((decide (c < 0) || decide ((i.bytes : Int) * c > 2 ^ 48)) || decide (l < 0) || decide (l > c)) = false := by
      simp only [Bool.or_eq_false_iff, decide_eq_false_iff_not]
      refine ⟨⟨⟨by omega, hbig⟩, by omega⟩, by omega⟩
    simp only [hcond]
    simp only [Bool.false_eq_true, if_false, Sem.run_bind, hroom, Result.andThen_ok, run_sizeOf hi]
    by_cases hn : c.toNat * szT P e = 0
    · simp [hn, run_newRow]
      simp [Array.range]
    · simp [hn, run_zero hv, run_newRow]
  · simp only [rep]
    refine ⟨by simp, by simp [upd], _, _, rfl, fun _ _ => ⟨by omega, by simp [upd], fun _ => by simp [upd]⟩⟩
theorem write_priv {P : Program} {E : Env} (hE : Ok P E) (id : Nat) (hlv : (E.h id).lv = true) (c c' : Array Value) (xs : List AV) (vs : List Value) (ex : Bool)
    (hc : E.w.heap[(E.m id).b]? = some (.cells c (E.h id).t (0, 0))) (hsz : c'.size = c.size)
    (hout : ∀ j, (j < (E.m id).base ∨ (E.m id).base + E.lim id * szT P (E.h id).t ≤ j) → c'[j]? = c[j]?) (hgr : (E.h id).gr = true ∨ xs.length = (E.h id).xs.length)
    (hr : repL P E xs vs) (hca : CellsAt c' (E.m id).base (szT P (E.h id).t) vs) (hcl : ∀ x ∈ xs, x.el P (E.h id).t = true)
    (hlen : (E.h id).xs.length ≤ xs.length) (hle : xs.length ≤ (E.m id).cap) (hex : ex = true → (E.m id).cap = xs.length) :
    let E' : Env := ⟨E.w.setRow (E.m id).b c', E.I, E.m, upd E.h id { E.h id with xs := xs, ex := ex }, E.nx⟩
    E.Le E' ∧ Ok P E' ∧ Goes P E E' := by
  intro E'
  have B := hE.blk id hlv
  have hsame : (E.w.setRow (E.m id).b c').heap[(E.m id).b]? = some (.cells c' (E.h id).t (0, 0)) := setRow_heap E.w _ c c' _ _ hc
  have hother : ∀ b, b ≠ (E.m id).b → (E.w.setRow (E.m id).b c').heap[b]? = E.w.heap[b]? := fun b hb => by
    simp only [World.setRow]; rw [Array.getElem?_modify, if_neg (fun h => hb h.symm)]
  have hsize : (E.w.setRow (E.m id).b c').heap.size = E.w.heap.size := by simp [World.setRow]
  have hLe : E.Le E' := by
    refine ⟨Nat.le_refl _, fun b hb => ⟨hb, hother b (fun h => B.dark (h ▸ hb))⟩, fun i hi => ?_, fun i hi n hn h1 h2 => ?_⟩
    · by_cases h : i = id
      · subst h; simpa [E', upd] using hlen
      · simp [E', upd, h]
    · by_cases h : i = id
      · subst h
        simp only [E', upd, if_true] at h1 h2 ⊢
        exact ⟨hlv, by omega, by trivial, by trivial⟩
      · simp only [E', upd, h, if_false] at h1 h2 ⊢; exact ⟨h1, h2, by trivial, by trivial⟩
  refine ⟨hLe, ⟨fun i hi => ?_, fun i j hi hj hij => ?_, fun b hb => by rw [show E'.w.heap.size = E.w.heap.size from hsize]; exact hE.imm b hb, hE.tab.le hLe⟩, ?_⟩
  · by_cases h : i = id
    · subst h
      refine ⟨B.lt, ?_, ?_, ?_, ?_, B.dark, ⟨c', vs, ?_, ?_, ?_, ?_⟩⟩
      · simpa [E', upd] using B.gr
      · simpa [E', upd] using hex
      · simpa [E', upd] using hle
      · simpa [E', upd] using hcl
      · simpa [E', upd] using hsame
      · simpa [E', upd] using repL_mono hLe _ _ hr
      · simpa [E', upd] using hca
      · obtain ⟨c0, _, h1, _, _, h4⟩ := B.at_
        rw [hc] at h1; cases h1
        simpa [E', upd, hsz] using h4
    · have hi' : (E.h i).lv = true := by simpa [E', upd, h] using hi
      exact (hE.blk i hi').move hLe (by simp [E', upd, h]) rfl (hother _ (fun hb => h (hE.inj i id hi' hlv hb))) (hE.blk i hi').dark
  · have f : ∀ k, (E'.h k).lv = true → (E.h k).lv = true := fun k hk => by
      by_cases h : k = id
      · subst h; exact hlv
      · simpa [E', upd, h] using hk
    exact hE.inj i j (f i hi) (f j hj) hij
  · refine ⟨rfl, rfl, rfl, Nat.le_of_eq hsize.symm, fun b hb hne => hother b (fun h => hne id hlv h.symm), fun i hi c0 h0 => ?_, fun i hi => ?_, fun b hb => .inl hb, Nat.le_refl _, fun i _ => ?_⟩
    · by_cases h : i = id
      · subst h
        rw [hc] at h0; cases h0
        exact ⟨c', hsame, hsz, hout⟩
      · exact ⟨c0, (hother _ (fun hb => h (hE.inj i id hi hlv hb))).trans h0, rfl, fun _ _ => rfl⟩
    · by_cases h : i = id
      · subst h
        refine .inl ⟨hlv, rfl, by simp [E', upd], ?_⟩
        simp only [E', upd, Env.lim, if_true]
        rcases hgr with hg | hg
        · rw [hg]; rfl
        · rw [hg]
      · simp only [E', upd, h, if_false, Env.lim] at hi ⊢; exact .inl ⟨hi, by trivial, by trivial, by trivial⟩
    · by_cases h : i = id
      · subst h; simp [E', upd]
      · simp [E', upd, h]
theorem Goes.trans {P : Program} {A B C : Env} (hA : Ok P A) (h : Goes P A B) (k : Goes P B C) : Goes P A C := by
  have live : ∀ b, b < A.w.heap.size → (∀ id, (A.h id).lv = true → (A.m id).b ≠ b) → ∀ id, (B.h id).lv = true → (B.m id).b ≠ b := by
    intro b hb hne id hid e
    rcases h.locs id hid with ⟨h1, h2, _, _⟩ | ⟨h1, _⟩
    · exact hne id h1 (by rw [← h2]; exact e)
    · omega
  refine ⟨k.os.trans h.os, k.tape.trans h.tape, k.output.trans h.output, Nat.le_trans h.size k.size, fun b hb hne => ?_, fun id hid c hc => ?_, fun id hid => ?_, fun b hb => ?_, Nat.le_trans h.nx k.nx, fun id hid => (k.grs id (Nat.lt_of_lt_of_le hid h.nx)).trans (h.grs id hid)⟩
  · exact (k.keep b (Nat.lt_of_lt_of_le hb h.size) (live b hb hne)).trans (h.keep b hb hne)
  · obtain ⟨c1, h1, h2, h3⟩ := h.part id hid c hc
    have hlt := lt_of_heap hc
    by_cases hl : ∃ j, (B.h j).lv = true ∧ (B.m j).b = (A.m id).b
    · obtain ⟨j, hj, hb⟩ := hl
      rcases h.locs j hj with ⟨g1, g2, g3, g4⟩ | ⟨g1, _⟩
      · have hji : j = id := hA.inj j id g1 hid (by rw [← g2]; exact hb)
        subst hji
        obtain ⟨c2, k1, k2, k3⟩ := k.part j hj c1 (by rw [g2, g3]; exact h1)
        rw [g2, g3] at k1
        rw [g2, g3, g4] at k3
        exact ⟨c2, k1, k2.trans h2, fun i hi => (k3 i hi).trans (h3 i hi)⟩
      · omega
    · exact ⟨c1, (k.keep _ (Nat.lt_of_lt_of_le hlt h.size) (fun j hj e => hl ⟨j, hj, e⟩)).trans h1, h2, h3⟩
  · rcases k.locs id hid with ⟨h1, h2, h3, h4⟩ | ⟨h1, h2⟩
    · rcases h.locs id h1 with ⟨g1, g2, g3, g4⟩ | ⟨g1, g2⟩
      · exact .inl ⟨g1, h2.trans g2, h3.trans g3, h4.trans g4⟩
      · exact .inr ⟨by rw [h2]; exact g1, g2⟩
    · refine .inr ⟨Nat.le_trans h.size h1, ?_⟩
      rcases Nat.lt_or_ge id A.nx with hlt | hge
      · rcases h2 with h2 | h2
        · exact .inl (Nat.le_trans h.nx h2)
        · exact .inr (by rw [← h.grs id hlt]; exact h2)
      · exact .inl hge
  · rcases k.dark b hb with h1 | h1 | ⟨id, h1, h2, h3⟩
    · exact h.dark b h1
    · exact .inr (.inl (Nat.le_trans h.size h1))
    · rcases h.locs id h1 with ⟨g1, g2, g3, g4⟩ | ⟨g1, g2⟩
      · exact .inr (.inr ⟨id, g1, by rw [← h.grs id (hA.blk id g1).lt]; exact h2, by rw [← g2]; exact h3⟩)
      · exact .inr (.inl (by rw [← h3]; exact g1))
def drewW (w : World) : World := { w with drawn := w.drawn + 1 }
theorem drew_env {P : Program} {E : Env} (hE : Ok P E) : let E' : Env := ⟨drewW E.w, E.I, E.m, E.h, E.nx⟩; E.Le E' ∧ Ok P E' ∧ Goes P E E' := by
 intro E'
 have hLe : E.Le E' := ⟨Nat.le_refl _, fun b hb => ⟨hb, rfl⟩, fun _ _ => Nat.le_refl _, fun _ _ _ _ h1 h2 => ⟨h1, h2, rfl, rfl⟩⟩
 exact ⟨hLe, ⟨fun id hlv => (hE.blk id hlv).move hLe rfl rfl rfl (hE.blk id hlv).dark, hE.inj, hE.imm, hE.tab.le hLe⟩,
  ⟨rfl, rfl, rfl, Nat.le_refl _, fun _ _ _ => rfl, fun _ _ c h => ⟨c, h, rfl, fun _ _ => rfl⟩, fun _ h => .inl ⟨h, rfl, rfl, rfl⟩, fun _ h => .inl h, Nat.le_refl _, fun _ _ => rfl⟩⟩
def flat (vs : List Value) : List Value := vs.flatMap fun v => v.cells.toList
theorem flat_length {sz : Nat} : ∀ {vs : List Value}, (∀ v ∈ vs, v.cells.size = sz) → (flat vs).length = vs.length * sz
 | [], _ => by simp [flat]
 | v :: vs, h => by
  have := flat_length (vs := vs) (fun x hx => h x (by simp [hx]))
  simp only [flat, List.flatMap_cons, List.length_append, List.length_cons] at this ⊢
  rw [this, Nat.add_mul]; simp [h v (by simp)]; omega
theorem flat_append (a b : List Value) : flat (a ++ b) = flat a ++ flat b := by simp [flat]
theorem CellsAt.sizes {c : Array Value} {off sz : Nat} {vs : List Value} (h : CellsAt c off sz vs) : ∀ v ∈ vs, v.cells.size = sz := by
 intro v hv
 obtain ⟨i, hi⟩ := List.getElem?_of_mem hv
 exact (h i v hi).1
theorem CellsAt.flat_get {c : Array Value} {sz : Nat} : ∀ {off : Nat} {vs : List Value}, CellsAt c off sz vs → ∀ (p : Nat) (u : Value), (flat vs)[p]? = some u → c[off + p]? = some u
  | off, [], _, p, u, hp => by simp [flat] at hp
  | off, v :: vs, h, p, u, hp => by
    have hv := h 0 v rfl
    have htl : CellsAt c (off + 1 * sz) sz vs := by simpa using h.drop 1
    simp only [flat, List.flatMap_cons] at hp
    rcases Nat.lt_or_ge p sz with hlt | hge
    · rw [List.getElem?_append_left (by simpa [hv.1] using hlt)] at hp
      have := hv.2 p u (by simpa using hp)
      simpa using this
    · rw [List.getElem?_append_right (by simpa [hv.1] using hge)] at hp
      have := CellsAt.flat_get htl (p - sz) u (by simpa [flat, hv.1] using hp)
      rw [← this]; congr 1; omega
theorem CellsAt.of_flat {c : Array Value} {sz : Nat} : ∀ {off : Nat} {vs : List Value}, (∀ v ∈ vs, v.cells.size = sz) → (∀ (p : Nat) (u : Value), (flat vs)[p]? = some u → c[off + p]? = some u) → CellsAt c off sz vs
  | off, [], _, _ => by intro i v h; simp at h
  | off, v :: vs, hs, h => by
    have hv := hs v (by simp)
    intro i x hi
    cases i with
    | zero =>
      simp only [List.getElem?_cons_zero, Option.some.injEq] at hi; subst hi
      refine ⟨hv, fun j u hj => ?_⟩
      have hlt : j < v.cells.size := by
        rcases Nat.lt_or_ge j v.cells.size with h' | h'
        · exact h'
        · rw [Array.getElem?_eq_none h'] at hj; cases hj
      have := h j u (by simp only [flat, List.flatMap_cons]; rw [List.getElem?_append_left (by simpa using hlt)]; simpa using hj)
      simpa using this
    | succ i =>
      simp only [List.getElem?_cons_succ] at hi
      have := CellsAt.of_flat (c := c) (sz := sz) (off := off + sz) (vs := vs) (fun y hy => hs y (by simp [hy])) (fun p u hp => by
        have := h (sz + p) u (by
          simp only [flat, List.flatMap_cons]
          rw [List.getElem?_append_right (by simp [hv])]
          simpa [flat, hv] using hp)
        rw [← this]; congr 1; omega) i x hi
      refine ⟨this.1, fun j u hj => ?_⟩
      rw [← this.2 j u hj]; congr 1
      rw [Nat.add_mul]; omega
theorem splice_get {α : Type} {l ns : List α} {o : Nat} (h : o + ns.length ≤ l.length) (p : Nat) :
    (l.take o ++ ns ++ l.drop (o + ns.length))[p]? = if p < o then l[p]? else if p < o + ns.length then ns[p - o]? else l[p]? := by
  have h1 : (l.take o).length = o := by rw [List.length_take]; omega
  by_cases hp : p < o
  · rw [if_pos hp, List.append_assoc, List.getElem?_append_left (by omega), List.getElem?_take, if_pos hp]
  · rw [if_neg hp]
    by_cases hq : p < o + ns.length
    · rw [if_pos hq, List.append_assoc, List.getElem?_append_right (by omega), h1, List.getElem?_append_left (by omega)]
    · rw [if_neg hq, List.getElem?_append_right (by rw [List.length_append]; omega), List.length_append, h1, List.getElem?_drop]
      congr 1; omega
theorem splice_length {α : Type} {l ns : List α} {o : Nat} (h : o + ns.length ≤ l.length) : (l.take o ++ ns ++ l.drop (o + ns.length)).length = l.length := by
 simp only [List.length_append, List.length_take, List.length_drop]; omega
theorem setCells_eq : ∀ (vs cs : List AV) (j : Nat), j + vs.length ≤ cs.length → setCells cs j vs = cs.take j ++ vs ++ cs.drop (j + vs.length)
  | [], cs, j, _ => by simp [setCells]
  | v :: vs, cs, j, h => by
    simp only [List.length_cons] at h
    rw [setCells, setCells_eq vs _ _ (by simp; omega)]
    apply List.ext_getElem?
    intro p
    rw [splice_get (by simp; omega), splice_get (by simp; omega)]
    simp only [List.length_cons]
    by_cases h1 : p < j
    · rw [if_pos (by omega), if_pos h1, List.getElem?_set, if_neg (by omega)]
    · rw [if_neg h1]
      by_cases h2 : p = j
      · subst h2
        rw [if_pos (by omega), if_pos (by omega), List.getElem?_set, if_pos rfl, if_pos (by omega)]
        simp
      · rw [if_neg (by omega)]
        by_cases h3 : p < j + 1 + vs.length
        · rw [if_pos h3, if_pos (by omega)]
          rw [show p - j = (p - (j + 1)) + 1 by omega, List.getElem?_cons_succ]
        · rw [if_neg h3, if_neg (by omega), List.getElem?_set, if_neg (by omega)]
theorem el_agg {P : Program} {t : Nat} {cs : List AV} (h : cs.length = szT P t) (h1 : ∀ c ∈ cs, c.one = true) : (AV.agg cs).el P t = true := by
 unfold AV.el; rw [Bool.and_eq_true]; exact ⟨decide_eq_true h, List.all_eq_true.2 h1⟩
theorem stA_sound {P : Program} {E : Env} {t j e : Nat} {x v x' : AV} {y u : Value} (h : stA P t x j v = some x') (hx : rep P E x y) (hxe : x.el P e = true) (hv : rep P E v u) :
    u.cells.size = szT P t ∧ (∀ z ∈ u.cells.toList, z.oneCell' = true) ∧ j + szT P t ≤ szT P e ∧ x'.el P e = true ∧
    ∃ y', rep P E x' y' ∧ y'.cells.toList = y.cells.toList.take j ++ u.cells.toList ++ y.cells.toList.drop (j + szT P t) := by
  unfold stA at h
  split at h
  · rename_i hc
    obtain ⟨hve, hle⟩ := hc
    have hus := el_size hv hve
    have hys := el_size hx hxe
    have hul := rep_cells hv (by rw [el_len hve, hus])
    have hu1 := repL_one hul (el_one hve)
    have hxl := el_len hxe
    refine ⟨hus, hu1, by rw [← hxl]; exact hle, ?_⟩
    split at h
    · rename_i cs
      cases h
      have hyl := rep_cells hx (by rw [hxl, hys])
      simp only [AV.cells] at hyl hle hxl
      have hvl : v.cells.length = szT P t := el_len hve
      have hset : setCells cs j v.cells = cs.take j ++ v.cells ++ cs.drop (j + szT P t) := by
        rw [setCells_eq _ _ _ (by omega), hvl]
      refine ⟨?_, .agg (y.cells.toList.take j ++ u.cells.toList ++ y.cells.toList.drop (j + szT P t)).toArray, ?_, by simp [Value.cells]⟩
      · have h1 := el_one hxe
        have h2 := el_one hve
        simp only [AV.cells] at h1
        rw [hset]
        refine el_agg (by simp only [List.length_append, List.length_take, List.length_drop]; omega) fun c hc => ?_
        simp only [List.mem_append] at hc
        rcases hc with (hc | hc) | hc
        · exact h1 c (List.mem_of_mem_take hc)
        · exact h2 c hc
        · exact h1 c (List.mem_of_mem_drop hc)
      · simp only [rep]
        refine ⟨_, rfl, ?_⟩
        rw [hset]
        exact repL_append (repL_append (repL_take hyl j) hul) (repL_drop hyl _)
    · rename_i hna
      have h1 : x.cells = [x] := by cases x <;> simp_all [AV.cells]
      rw [h1] at hle hxl
      split at h
      · cases h
      · rename_i hvn
        cases h
        have h2 : v.cells = [v] := by cases v <;> simp_all [AV.cells]
        have hvl := el_len hve
        rw [h2] at hvl
        simp only [List.length_cons, List.length_nil, Nat.zero_add] at hvl hle hxl
        have hj : j = 0 := by omega
        subst hj
        refine ⟨?_, u, hv, ?_⟩
        · have := el_one hve
          unfold AV.el; rw [Bool.and_eq_true]
          exact ⟨decide_eq_true (by rw [h2]; simpa using hxl), List.all_eq_true.2 this⟩
        · have : y.cells.toList.length = 1 := by simp [hys, ← hxl]
          rw [List.drop_eq_nil_of_le (by omega)]
          simp
  · cases h
theorem store_sound {P : Program} {E : Env} {st st' : St} {t : Nat} {aa av : AV} {a v : Value} (hE : Ok P E) (hh : st.h = E.h) (hok : okT P t = true) (h : storeA P st t aa av = some st') (ha : rep P E aa a) (hv : rep P E av v) :
    st'.fr = st.fr ∧ st'.nx = st.nx ∧ ∃ E', E'.h = st'.h ∧ E'.nx = E.nx ∧ E.Le E' ∧ Ok P E' ∧ Goes P E E' ∧ (Instr.storeAt t a v).run P E.w = .ok () E'.w := by
  obtain ⟨d, i0, hd, hi0⟩ := okT_parts hok
  unfold storeA at h
  split at h
  · rename_i id n i j
    split at h
    · rename_i hc
      rw [hh] at hc h
      obtain ⟨hlv, hn⟩ := hc
      split at h
      · rename_i x hxi
        simp only [Option.map_eq_some_iff] at h
        obtain ⟨x', hst, rfl⟩ := h
        refine ⟨rfl, rfl, ?_⟩
        have B := hE.blk id hlv
        obtain ⟨c, vs, hb, hrl, hca, hcsz⟩ := B.at_
        obtain ⟨y, hyi, hy⟩ := repL_get hrl i x hxi
        have hxe := B.cl x (List.mem_of_getElem? hxi)
        obtain ⟨h1, h2, h3, h4, y', h5, h6⟩ := stA_sound hst hy hxe hv
        simp only [rep] at ha
        obtain ⟨_, _, ad, rfl, had⟩ := ha
        cases had hlv hn
        have hilt : i < (E.h id).xs.length := by
          rcases Nat.lt_or_ge i (E.h id).xs.length with h' | h'
          · exact h'
          · rw [List.getElem?_eq_none h'] at hxi; cases hxi
        have hys := el_size hy hxe
        have hul : v.cells.toList.length = szT P t := by simpa using h1
        have hin : (E.m id).base + i * szT P (E.h id).t + szT P (E.h id).t ≤ (E.m id).base + (E.m id).cap * szT P (E.h id).t := by
          have : (i + 1) * szT P (E.h id).t ≤ (E.m id).cap * szT P (E.h id).t := Nat.mul_le_mul_right _ (Nat.le_trans hilt B.le)
          rw [Nat.add_mul] at this; omega
        have hlim : (E.m id).base + i * szT P (E.h id).t + szT P (E.h id).t ≤ (E.m id).base + E.lim id * szT P (E.h id).t := by
          have h0 : i + 1 ≤ E.lim id := by
            have := B.le
            unfold Env.lim; split <;> omega
          have : (i + 1) * szT P (E.h id).t ≤ E.lim id * szT P (E.h id).t := Nat.mul_le_mul_right _ h0
          rw [Nat.add_mul] at this; omega
        obtain ⟨o, ho⟩ : ∃ o, o = (E.m id).base + i * szT P (E.h id).t + j := ⟨_, rfl⟩
        have hol : o + v.cells.toList.length ≤ c.toList.length := by
          have : c.toList.length = c.size := by simp
          omega
        have hget := splice_get (l := c.toList) (ns := v.cells.toList) hol
        have W := write_priv hE id hlv c (c.toList.take o ++ v.cells.toList ++ c.toList.drop (o + v.cells.toList.length)).toArray ((E.h id).xs.set i x') (vs.set i y') (E.h id).ex hb
          (by have := splice_length (l := c.toList) (ns := v.cells.toList) hol; simpa using this)
          (fun p hp => by
            rw [List.getElem?_toArray, hget]
            by_cases hpo : p < o
            · rw [if_pos hpo, Array.getElem?_toList]
            · rw [if_neg hpo, if_neg (by omega), Array.getElem?_toList])
          (.inr (by simp))
          (repL_set hrl i h5)
          (by
            intro k w hk
            rw [List.getElem?_set] at hk
            by_cases hki : i = k
            · subst hki
              rw [if_pos rfl, if_pos (by rw [repL_length hrl]; exact hilt)] at hk
              cases hk
              have hs' := el_size h5 h4
              refine ⟨hs', fun q z hq => ?_⟩
              have hq' : y'.cells.toList[q]? = some z := by rw [Array.getElem?_toList]; exact hq
              rw [h6, ← hul, splice_get (by rw [show y.cells.toList.length = y.cells.size by simp, hys, hul]; exact h3)] at hq'
              rw [List.getElem?_toArray, hget]
              by_cases q1 : q < j
              · rw [if_pos q1] at hq'
                rw [if_pos (by omega), Array.getElem?_toList]
                exact (hca i y hyi).2 q z (by simpa using hq')
              · rw [if_neg q1] at hq'
                by_cases q2 : q < j + v.cells.toList.length
                · rw [if_pos q2] at hq'
                  rw [if_neg (by omega), if_pos (by omega), ← hq']; congr 1; omega
                · rw [if_neg q2] at hq'
                  rw [if_neg (by omega), if_neg (by omega), Array.getElem?_toList]
                  exact (hca i y hyi).2 q z (by simpa using hq')
            · rw [if_neg hki] at hk
              obtain ⟨g1, g2⟩ := hca k w hk
              refine ⟨g1, fun q z hq => ?_⟩
              have hqlt : q < szT P (E.h id).t := by
                rcases Nat.lt_or_ge q w.cells.size with h' | h'
                · omega
                · rw [Array.getElem?_eq_none h'] at hq; cases hq
              rw [List.getElem?_toArray, hget]
              have hcell := g2 q z hq
              rcases Nat.lt_or_ge k i with hlt | hge
              · have : (k + 1) * szT P (E.h id).t ≤ i * szT P (E.h id).t := Nat.mul_le_mul_right _ hlt
                rw [Nat.add_mul] at this
                rw [if_pos (by omega), Array.getElem?_toList]; exact hcell
              · have : (i + 1) * szT P (E.h id).t ≤ k * szT P (E.h id).t := Nat.mul_le_mul_right _ (by omega)
                rw [Nat.add_mul] at this
                rw [if_neg (by omega), if_neg (by omega), Array.getElem?_toList]; exact hcell)
          (by
            intro z hz
            rcases List.mem_or_eq_of_mem_set hz with hz | rfl
            · exact B.cl z hz
            · exact h4)
          (by simp) (by simpa using B.le) (by simpa using B.ex)
        obtain ⟨W1, W2, W3⟩ := W
        refine ⟨_, ?_, ?_, W1, W2, W3, ?_⟩
        · simp
        · rfl
        · have hrun := run_storeCells_at (P := P) (E.m id).b o (E.h id).t v.cells.toList 0 c E.w hb (by simpa using hol) h2
          simp only [Nat.add_zero] at hrun
          simp only [Instr.storeAt, Instr.sureAddr, storeVar, Sem.run_bind, Sem.run_pure, Result.andThen_ok, run_sizeOf hi0, h1, ne_eq, not_true_eq_false, if_false]
          rw [← ho]
          exact hrun
      · cases h
    · cases h
  · cases h
end Go.Proofs.YtdljcbbodihagaaGreatDoor
