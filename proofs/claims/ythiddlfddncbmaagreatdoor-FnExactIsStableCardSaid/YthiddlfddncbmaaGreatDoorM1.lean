/- Ground 1. -/
import Derived.Orders
import Derived.Laws.CopyRow
import Derived.Lib.LaidTab
import Derived.Tactics
import Derived.Laws.StructEq
import Derived.Laws.Strings
import Derived.Laws.Cells
import Derived.Laws.BytesArg
import Derived.Room.Entries

set_option linter.unusedVariables false
set_option linter.unusedSimpArgs false
set_option maxRecDepth 100000
namespace Go.Proofs.YthiddlfddncbmaaGreatDoor
open Go

inductive AV where
 | undef
 | bool (b : Bool)
 | int (k : IntKind) (n : Int)
 | str (s : List UInt8)
 | nil
 | sl (t : Nat) (xs sp : List AV) (ex : Bool)
 | ref (id n off len : Nat)
 | own (t : Nat) (xs sp : List AV) (ex : Bool)
 | ptr (id n i j : Nat)
 | cptr (t : Nat) (v : AV) (j : Nat)
 | fn (f : Fn) (first cap : List AV)
 | agg (cs : List AV)
 | tup (vs : List AV)
 deriving Inhabited
structure Blk where
 t : Nat
 xs : List AV
 ex : Bool
 gr : Bool
 lv : Bool
theorem zL {p : Prop} (h : p := by exact Nat.le_of_ble_eq_true rfl) : p := h
theorem zW {p : Prop} (h : p := by simp; omega) : p := h
theorem zT {p : Prop} (h : p := by simp only; omega) : p := h
theorem zS {p : Prop} (h : p := by simp) : p := h
theorem zD {p : Prop} (h : p := by decide) : p := h
theorem zK {p : Prop} (h : p := by kernel_rfl) : p := h
theorem zO {p : Prop} (h : p := by omega) : p := h
def Blk.dead : Blk := ⟨0, [], false, false, false⟩
structure St where
 fr : Nat → AV
 h : Nat → Blk
 nx : Nat
def upd {α : Type} (f : Nat → α) (i : Nat) (v : α) : Nat → α := fun j => if j = i then v else f j
theorem AA {α : Type} (f : Nat → α) (i : Nat) (v : α) (j : Nat) : upd f i v j = if j = i then v else f j := rfl
theorem zU {p : Prop} (h : p := by simp [AA]) : p := h
theorem zV {p : Prop} (h : p := by simp [AA] <;> omega) : p := h
def AV.cells : AV → List AV
 | .agg cs => cs
 | v => [v]
mutual
def AV.pure : AV → Bool
 | .sl _ xs sp _ => AV.pureL xs && AV.pureL sp
 | .ref .. | .ptr .. | .own .. => false
 | .cptr _ v _ => v.pure
 | .fn _ a b => AV.pureL a && AV.pureL b
 | .agg cs => AV.pureL cs
 | .tup vs => AV.pureL vs
 | _ => true
def AV.pureL : List AV → Bool
 | [] => true
 | x :: xs => x.pure && AV.pureL xs
end
mutual
def AV.solid : AV → Bool
 | .own _ xs sp _ => AV.solidL xs && AV.solidL sp
 | .agg cs => AV.solidL cs
 | .tup vs => AV.solidL vs
 | .sl .. | .cptr .. | .fn .. | .ref .. | .ptr .. => false
 | _ => true
def AV.solidL : List AV → Bool
 | [] => true
 | x :: xs => x.solid && AV.solidL xs
end
theorem zP {p : Prop} (h : p := by simp [AV.pure, AV.pureL]) : p := h
def szT (P : Program) (t : Nat) : Nat := ((P.info? t).map (·.size)).getD 0
def byT (P : Program) (t : Nat) : Nat := ((P.info? t).map (·.bytes)).getD 0
def aggT (P : Program) (t : Nat) : Bool :=
 match P.underlying t with
 | some (.struct _) | some (.array ..) => true
 | _ => false
def elT (P : Program) (t : Nat) : Option Nat :=
 match P.underlying t with
 | some (.slice e) => some e
 | _ => none
def okT (P : Program) (t : Nat) : Bool := (P.underlying t).isSome && (P.info? t).isSome
def strT (P : Program) (t : Nat) : Bool := match P.underlying t with | some .string => true | _ => false
def u32T (P : Program) (t : Nat) : Bool := match P.underlying t with | some (.int .u32) => true | _ => false
def boolT (P : Program) (t : Nat) : Bool := match P.underlying t with | some .bool => true | _ => false
def isBool : AV → Bool | .bool _ => true | _ => false
def ofCell : Value → AV
 | .bool b => .bool b
 | .int k n => .int k n
 | .string s => .str s.data.toList
 | .slice none 0 0 => .nil
 | _ => .undef
def ofVal : Value → AV
 | .agg cs => .agg (cs.toList.map ofCell)
 | v => ofCell v
def zeroA (P : Program) (t : Nat) : Option AV := ((P.info? t).bind (·.zero)).map ofVal
def St.ev (st : St) : Operand → AV
 | .tmp t => st.fr t
 | .const v => ofVal v
 | .func f => .fn (.func f) [] []
 | .global _ => .undef
def St.put (st : St) (dst : Option Tmp) (v : AV) : St :=
 match dst with
 | some d => { st with fr := upd st.fr d v }
 | none => st
def AV.one : AV → Bool
 | .undef | .agg _ | .tup _ => false
 | _ => true
def AV.el (P : Program) (t : Nat) (x : AV) : Bool := decide (x.cells.length = szT P t) && x.cells.all AV.one
def partA (P : Program) (t : Nat) (cs : List AV) (j : Nat) : Option AV :=
 if aggT P t then
  if j + szT P t ≤ cs.length then some (.agg ((cs.drop j).take (szT P t))) else none
 else cs[j]?
def ldA (P : Program) (t : Nat) (x : AV) (j : Nat) : Option AV := partA P t x.cells j
def setCells (cs : List AV) (j : Nat) : List AV → List AV
 | [] => cs
 | v :: vs => setCells (cs.set j v) (j + 1) vs
def stA (P : Program) (t : Nat) (x : AV) (j : Nat) (v : AV) : Option AV :=
 if v.el P t ∧ j + szT P t ≤ x.cells.length then
  match x with
  | .agg cs => some (.agg (setCells cs j v.cells))
  | _ => match v with
   | .agg _ => none
   | v => some v
 else none
def fieldOff (P : Program) (t : Nat) (f : Nat) : Option (Nat × Nat) :=
 match P.underlying t with
 | some (.struct fs) => (fs[f]?).map fun x => (x.offset, x.type)
 | _ => none
def fillA (P : Program) (t : Nat) (cs : List AV) : List (Nat × AV) → Option (List AV)
 | [] => some cs
 | (i, v) :: rest =>
  match fieldOff P t i with
  | some (off, u) => if v.el P u ∧ off + szT P u ≤ cs.length then fillA P t (setCells cs off v.cells) rest else none
  | none => none
def intA (op : BinOp) (k : IntKind) (a b : Int) : Option AV :=
 match op with
 | .add => some (.int k (k.wrap (a + b)))
 | .sub => some (.int k (k.wrap (a - b)))
 | .mul => some (.int k (k.wrap (a * b)))
 | .quo => if b = 0 then none else some (.int k (k.wrap (a.tdiv b)))
 | .rem => if b = 0 then none else some (.int k (a.tmod b))
 | .and => some (.int k (k.wrap (BitVec.ofInt k.bits a &&& BitVec.ofInt k.bits b).toNat))
 | .or => some (.int k (k.wrap (BitVec.ofInt k.bits a ||| BitVec.ofInt k.bits b).toNat))
 | .xor => some (.int k (k.wrap (BitVec.ofInt k.bits a ^^^ BitVec.ofInt k.bits b).toNat))
 | .eql => some (.bool (a == b))
 | .neq => some (.bool (a != b))
 | .lss => some (.bool (decide (a < b)))
 | .leq => some (.bool (decide (a ≤ b)))
 | .gtr => some (.bool (decide (a > b)))
 | .geq => some (.bool (decide (a ≥ b)))
 | _ => none
def binA (op : BinOp) (x y : AV) : Option AV :=
 match x, y with
 | .int k a, .int k' b =>
  match op with
  | .shl => if b < 0 then none else some (.int k (k.wrap (a * 2 ^ (min b.toNat k.bits))))
  | .shr => if b < 0 then none else some (.int k (a.fdiv (2 ^ (min b.toNat k.bits))))
  | _ => if k = k' then intA op k a b else none
 | .str a, .str b =>
  match op with
  | .add => if a.length + b.length ≤ 9223372036854775807 then some (.str (a ++ b)) else none
  | .eql => some (.bool (a == b))
  | .neq => some (.bool (!(a == b)))
  | _ => none
 | .bool a, .bool b =>
  match op with
  | .eql => some (.bool (a == b))
  | .neq => some (.bool (!(a == b)))
  | _ => none
 | _, _ => none
def unA (op : UnOp) (x : AV) : Option AV :=
 match op, x with
 | .neg, .int k n => some (.int k (k.wrap (0 - n)))
 | .not, .bool b => some (.bool (!b))
 | _, _ => none
def convA (P : Program) (dst : Nat) (x : AV) : Option AV :=
 match P.underlying dst, x with
 | some (.int k), .int _ n => some (.int k (k.wrap n))
 | some .string, .str s => some (.str s)
 | _, _ => none
def bytesOf : List AV → Option (List UInt8)
 | [] => some []
 | .int .u8 n :: xs => (bytesOf xs).map (UInt8.ofNat n.toNat :: ·)
 | _ => none
def u8T (P : Program) (t : Nat) : Bool := (match P.underlying t with | some (.int .u8) => true | _ => false) && szT P t == 1
def bndA (v : AV) (y : Nat) : Option Nat :=
 match v with
 | .int _ i => if 0 ≤ i ∧ i ≤ (y : Int) then some i.toNat else none
 | _ => none
def bounds2 (len cap : Nat) (lo hi : Option AV) : Option (Nat × Nat) :=
 match (match hi with | some v => bndA v cap | none => some len) with
 | some h => (match lo with | some v => bndA v h | none => some 0).map (·, h)
 | none => none
def zeroI : AV → Bool
 | .int _ n => n == 0
 | _ => false
def sliceA (P : Program) (st : St) (xt : Nat) (x : AV) (lo hi : Option AV) (mx : Option AV) : Option AV :=
 match mx with
 | some m =>
  if lo.isNone = true ∧ hi.map zeroI = some true ∧ zeroI m = true then
   match x with
   | .nil => if ((elT P xt).bind P.info?).isSome then some .nil else none
   | .sl t _ _ _ => if elT P xt = some t ∧ (P.info? t).isSome then some (.sl t [] [] true) else none
   | .ref id n _ _ => if (st.h id).lv ∧ (st.h id).xs.length = n ∧ elT P xt = some (st.h id).t ∧ (P.info? (st.h id).t).isSome then some (.sl (st.h id).t [] [] true) else none
   | _ => none
  else none
 | none =>
  match x with
  | .str s => if strT P xt then (bounds2 s.length s.length lo hi).map fun p => .str ((s.take p.2).drop p.1) else none
  | .nil => if ((elT P xt).bind P.info?).isSome then (bounds2 0 0 lo hi).map fun _ => .nil else none
  | .sl t xs sp ex => if elT P xt = some t ∧ (P.info? t).isSome then (bounds2 xs.length (xs.length + sp.length) lo hi).map fun p =>
    .sl t (((xs ++ sp).take p.2).drop p.1) (if ex then (xs ++ sp).drop p.2 else []) ex else none
  | .ref id n off len =>
   if (st.h id).lv ∧ (st.h id).xs.length = n ∧ elT P xt = some (st.h id).t ∧ (P.info? (st.h id).t).isSome then
    (bounds2 len (n - off) lo hi).map fun p => .ref id n (off + p.1) (p.2 - p.1)
   else none
  | _ => none
def indexAddrA (P : Program) (st : St) (xt : Nat) (x i : AV) : Option AV :=
 match x, i with
 | .sl t xs _ _, .int _ i => if elT P xt = some t ∧ (P.info? t).isSome ∧ 0 ≤ i ∧ i < (xs.length : Int) then (xs[i.toNat]?).map (.cptr t · 0) else none
 | .ref id n off len, .int _ i =>
  if (st.h id).lv ∧ (st.h id).xs.length = n ∧ elT P xt = some (st.h id).t ∧ (P.info? (st.h id).t).isSome ∧ off + len ≤ n then
   if 0 ≤ i ∧ i < (len : Int) then some (.ptr id n (off + i.toNat) 0) else none
  else none
 | _, _ => none
def lenA (st : St) : AV → Option Int
 | .str s => some s.length
 | .nil => some 0
 | .sl _ xs _ _ => some xs.length
 | .ref id n _ len => if (st.h id).lv ∧ (st.h id).xs.length = n then some len else none
 | _ => none
def lenT (P : Program) (t : Nat) : AV → Bool
 | .str _ => strT P t
 | _ => (elT P t).isSome
def loadA (P : Program) (st : St) (t : Nat) : AV → Option AV
 | .cptr _ v j => ldA P t v j
 | .ptr id n i j => if (st.h id).lv ∧ (st.h id).xs.length = n then ((st.h id).xs[i]?).bind (ldA P t · j) else none
 | _ => none
def storeA (P : Program) (st : St) (t : Nat) (a v : AV) : Option St :=
 match a with
 | .ptr id n i j =>
  if (st.h id).lv ∧ (st.h id).xs.length = n then
   match (st.h id).xs[i]? with
   | some x => (stA P t x j v).map fun x' => { st with h := upd st.h id { st.h id with xs := (st.h id).xs.set i x' } }
   | none => none
  else none
 | _ => none
def St.new (st : St) (b : Blk) : St := { st with h := upd st.h st.nx b, nx := st.nx + 1 }
def winA (st : St) (e : Nat) : AV → Option (List AV)
 | .nil => some []
 | .sl t xs _ _ => if t = e then some xs else none
 | .ref id n off len => if (st.h id).lv ∧ (st.h id).xs.length = n ∧ (st.h id).t = e ∧ off + len ≤ n then some (((st.h id).xs.drop off).take len) else none
 | _ => none
def reach : Nat := 140737488355328
def nilV : Value → Bool
 | .slice none 0 0 => true
 | _ => false
def binN (P : Program) (op : BinOp) (t : Nat) (y : Operand) (ax ay : AV) : Option AV :=
 match y with
 | .const v => if nilV v then (match op, ax with
   | .eql, .sl _ xs _ _ => if xs.length ≠ 0 ∧ (elT P t).isSome = true then some (.bool false) else none
   | .neq, .sl _ xs _ _ => if xs.length ≠ 0 ∧ (elT P t).isSome = true then some (.bool true) else none
   | _, _ => none)
  else binA op ax ay
 | _ => binA op ax ay
def conA (P : Program) (st : St) (src dst : Nat) (v : AV) : Option AV :=
 if src = 98 then
  if strT P dst then (elT P src).bind fun e => if u8T P e then (winA st e v).bind fun ys => (bytesOf ys).map .str else none else none
 else convA P dst v
def appendA (P : Program) (st : St) (e : Nat) (s : AV) (ys : List AV) : Option (AV × St) :=
 match s with
 | .nil =>
  if ys = [] then some (.nil, st)
  else if ys.length * byT P e ≤ reach ∧ ys.length ≤ reach then some (.ref st.nx ys.length 0 ys.length, st.new ⟨e, ys, false, true, true⟩) else none
 | .sl t xs sp ex =>
  if ex ∧ sp = [] ∧ ys ≠ [] ∧ t = e then
   if (xs.length + ys.length) * byT P e ≤ reach ∧ xs.length + ys.length ≤ reach then
    some (.ref st.nx (xs.length + ys.length) 0 (xs.length + ys.length), st.new ⟨e, xs ++ ys, false, true, true⟩)
   else none
  else if ys = [] ∧ t = e then some (.sl t xs sp ex, st) else none
 | .ref id n off len =>
  if (st.h id).lv ∧ (st.h id).xs.length = n ∧ (st.h id).t = e ∧ off + len ≤ n then
   if off + len + ys.length ≤ n then
    some (.ref id n off (len + ys.length), { st with h := upd st.h id { st.h id with xs := (st.h id).xs.take (off + len) ++ ys ++ (st.h id).xs.drop (off + len + ys.length) } })
   else if off = 0 ∧ len = n ∧ (st.h id).gr ∧ (len + ys.length) * byT P e ≤ reach ∧ len + ys.length ≤ reach then
    some (.ref id (n + ys.length) 0 (n + ys.length), { st with h := upd st.h id { st.h id with xs := (st.h id).xs ++ ys, ex := false } })
   else none
  else none
 | _ => none
def copyA (P : Program) (st : St) (e : Nat) (s : AV) (ys : List AV) : Option (AV × St) :=
 match s with
 | .ref id n off len =>
  if off + len ≤ n ∧ ys.length ≤ len then (appendA P st e (.ref id n off 0) ys).bind fun p => if (st.h id).lv ∧ (st.h id).xs.length = n then some (.int .i64 ys.length, p.2) else none
  else none
 | _ => none
def cntT (P : Program) (u : Nat) : Bool := match P.underlying u with | some (.int _) => true | _ => false
def appendN (P : Program) (st : St) (u e : Nat) (s x : AV) : Option (AV × St) :=
 match s, x with
 | .nil, .int _ n =>
  if cntT P u ∧ 0 < n ∧ n * (byT P e : Int) ≤ reach ∧ n ≤ reach ∧ szT P e ≠ 0 then
   (zeroA P e).bind fun z => if z.el P e then some (.ref st.nx n.toNat 0 n.toNat, st.new ⟨e, List.replicate n.toNat z, false, true, true⟩) else none
  else none
 | _, _ => none
def cutA (s x : AV) : AV :=
 match s, x with
 | .ref _ _ _ l, .ref id n off len => if len ≤ l then .ref id n off len else .ref id n off l
 | .ref _ _ _ l, .sl t xs sp ex => if l = 0 then .nil else .sl t xs sp ex
 | _, x => x
def zokT (P : Program) (e : Nat) : Bool := ((zeroA P e).map (AV.el P e)).getD false
def infosT (P : Program) (t : Nat) : Bool :=
 match P.underlying t with
 | some (.struct fs) => fs.toList.all fun f => (P.info? f.type).isSome
 | _ => false
def partsA : Nat → List (Nat × AV) → Option (List AV)
 | _, [] => some []
 | i, (j, v) :: rest => if i = j then (partsA (i + 1) rest).map (v :: ·) else none
def evalOp (P : Program) (st : St) (o : Op) : Option (AV × St) :=
 match o with
 | .move x | .assign x => some (st.ev x, st)
 | .pick c a b => match st.ev c with
  | .bool t => some (if t then st.ev a else st.ev b, st)
  | _ => none
 | .alloc e => (zeroA P e).bind fun z =>
   if z.el P e then some (.ptr st.nx 1 0 0, st.new ⟨e, [z], true, false, true⟩) else none
 | .box e x => if (st.ev x).el P e then some (.ptr st.nx 1 0 0, st.new ⟨e, [st.ev x], true, false, true⟩) else none
 | .build t parts => if infosT P t then match zeroA P t with
   | some (.agg cs) => (fillA P t cs (parts.toList.map fun p => (p.1, st.ev p.2))).map fun cs => (.agg cs, st)
   | _ => none
  else none
 | .buildSlice t len parts => (elT P t).bind fun e =>
   if len * szT P e ≤ 16777216 ∧ zokT P e then
    if len = 0 ∧ u32T P e = false then (if parts.toList = [] then some (.ref st.nx 0 0 0, st.new ⟨e, [], true, true, true⟩) else none)
    else (partsA 0 (parts.toList.map fun p => (p.1, st.ev p.2))).bind fun xs =>
     if xs.length = len ∧ xs.all (AV.el P e) then some (.sl e xs [] true, st) else none
   else none
 | .nilCheck x => match st.ev x with
  | .ptr id n i j => some (.ptr id n i j, st)
  | .cptr t v j => some (.cptr t v j, st)
  | _ => none
 | .load t a => if okT P t then (loadA P st t (st.ev a)).map (·, st) else none
 | .store t a x => if okT P t then (storeA P st t (st.ev a) (st.ev x)).map (.undef, ·) else none
 | .binOp op t x y _ => if isBool (st.ev x) → boolT P t then (binN P op t y (st.ev x) (st.ev y)).map (·, st) else none
 | .unOp op _ x => (unA op (st.ev x)).map (·, st)
 | .convert src dst x => if okT P src then (conA P st src dst (st.ev x)).map (·, st) else none
 | .makeFunc f first cap => some (.fn f (first.toList.map st.ev) (cap.toList.map st.ev), st)
 | .makeSlice t l c => (elT P t).bind fun e =>
   match st.ev l, st.ev c with
   | .int _ l, .int _ c =>
    if 0 ≤ l ∧ l ≤ c ∧ c * (byT P e : Int) ≤ reach ∧ c ≤ reach then
     (zeroA P e).bind fun z =>
      if z.el P e then some (.ref st.nx c.toNat 0 l.toNat, st.new ⟨e, List.replicate c.toNat z, true, true, true⟩) else none
    else none
   | _, _ => none
 | .slice t x lo hi mx => (sliceA P st t (st.ev x) (lo.map st.ev) (hi.map st.ev) (mx.map st.ev)).map (·, st)
 | .fieldAddr s x f => match fieldOff P s f, st.ev x with
  | some (off, u), .ptr id n i j => if szT P u ≠ 0 then some (.ptr id n i (j + off), st) else none
  | some (off, u), .cptr t v j => if szT P u ≠ 0 then some (.cptr t v (j + off), st) else none
  | _, _ => none
 | .field t x f => match fieldOff P t f, st.ev x with
  | some (off, u), .agg cs => if okT P u then (partA P u cs off).map (·, st) else none
  | _, _ => none
 | .indexAddr t x i => (indexAddrA P st t (st.ev x) (st.ev i)).map (·, st)
 | .index t x i => match st.ev x, st.ev i with
  | .str s, .int _ i => if strT P t ∧ 0 ≤ i ∧ i < (s.length : Int) then (s[i.toNat]?).map fun b => (.int .u8 b.toNat, st) else none
  | _, _ => none
 | .extract t i => match st.ev t with
  | .tup vs => (vs[i]?).map (·, st)
  | _ => none
 | .call { callee := .builtin b, args := as0, argTypes := ts } =>
  match b, as0.toList, ts.toList with
  | .len, [x], [t] => if lenT P t (st.ev x) then (lenA st (st.ev x)).map fun n => (.int .i64 n, st) else none
  | .append, [s, x], [t, u] => (elT P t).bind fun e => match (if elT P u = some e ∧ zokT P e then winA st e (st.ev x) else none) with
   | some ys => appendA P st e (st.ev s) ys
   | none => appendN P st u e (st.ev s) (st.ev x)
  | .cap, [x], [t] => match st.ev x, elT P t with
   | .nil, some _ => some (.int .i64 0, st)
   | _, _ => none
  | .copy, [s, x], [t, u] => (elT P t).bind fun e => if elT P u = some e ∧ zokT P e then (winA st e (cutA (st.ev s) (st.ev x))).bind fun ys => copyA P st e (st.ev s) ys else none
  | .max, [x, y], _ => match st.ev x, st.ev y with
   | .int k a, .int k' b => if k = k' then some (.int k (if b > a then b else a), st) else none
   | _, _ => none
  | .min, [x, y], _ => match st.ev x, st.ev y with
   | .int k a, .int k' b => if k = k' then some (.int k (if b < a then b else a), st) else none
   | _, _ => none
  | _, _, _ => none
 | _ => none
mutual
def AV.flat : AV → Bool
 | .own _ xs sp _ => AV.pureL xs && AV.pureL sp
 | .agg cs => AV.flatL cs
 | .tup cs => AV.flatL cs
 | .ref .. | .ptr .. => false
 | .sl _ xs sp _ => AV.pureL xs && AV.pureL sp
 | .cptr _ v _ => v.pure
 | .fn _ a b => AV.pureL a && AV.pureL b
 | _ => true
def AV.flatL : List AV → Bool
 | [] => true
 | x :: xs => x.flat && AV.flatL xs
end
mutual
def matA (g : Bool) : AV → St → AV × St
 | .own t xs sp ex, st => (.ref (matL g sp (matL g xs st).2).2.nx (xs.length + sp.length) 0 xs.length,
  (matL g sp (matL g xs st).2).2.new ⟨t, (matL g xs st).1 ++ (matL g sp (matL g xs st).2).1, ex, g, true⟩)
 | .agg cs, st => (.agg (matL g cs st).1, (matL g cs st).2)
 | .tup vs, st => (.tup (matL g vs st).1, (matL g vs st).2)
 | x, st => (x, st)
def matL (g : Bool) : List AV → St → List AV × St
 | [], st => ([], st)
 | x :: xs, st => ((matA g x st).1 :: (matL g xs (matA g x st).2).1, (matL g xs (matA g x st).2).2)
end
mutual
theorem BN (g : Bool) : ∀ (x : AV) (st : St), x.pure = true → matA g x st = (x, st)
 | .own .., _, h => by simp [AV.pure] at h
 | .agg cs, st, h => by simp only [AV.pure] at h; simp [matA, Am g cs st h]
 | .tup vs, st, h => by simp only [AV.pure] at h; simp [matA, Am g vs st h]
 | .undef, _, _ | .bool _, _, _ | .int .., _, _ | .str _, _, _ | .nil, _, _ | .sl .., _, _ | .ref .., _, _ | .ptr .., _, _ | .cptr .., _, _ | .fn .., _, _ => by simp [matA]
theorem Am (g : Bool) : ∀ (xs : List AV) (st : St), AV.pureL xs = true → matL g xs st = (xs, st)
 | [], _, _ => by simp [matL]
 | x :: xs, st, h => by
  simp only [AV.pureL, Bool.and_eq_true] at h
  simp [matL, BN g x st h.1, Am g xs st h.2]
end
structure Loc where
 b : Nat
 base : Nat
 cap : Nat
structure Env where
 w : World
 I : Nat → Prop
 m : Nat → Loc
 h : Nat → Blk
 nx : Nat
def CellsAt (c : Array Value) (off sz : Nat) (vs : List Value) : Prop :=
 ∀ i v, vs[i]? = some v → v.cells.size = sz ∧ ∀ j u, v.cells[j]? = some u → c[off + i * sz + j]? = some u
mutual
def rep (P : Program) (E : Env) : AV → Value → Prop
 | .undef, _ => True
 | .bool b, v => v = .bool b
 | .int k n, v => v = .int k n
 | .str s, v => v = .string ⟨s.toArray⟩
 | .nil, v => ∃ a, v = .slice a 0 0
 | .sl t xs sp ex, v => ∃ a cap, v = .slice a xs.length cap ∧ xs.length + sp.length ≤ cap ∧ (ex = true → cap = xs.length + sp.length) ∧
  (∀ x ∈ xs ++ sp, x.el P t = true) ∧ ∃ vs us, repL P E xs vs ∧ repL P E sp us ∧ (xs.length + sp.length ≠ 0 → ∃ b off c, ∃ fz : TypeId × (Nat × Nat), a = some ⟨b, off, none⟩ ∧ E.I b ∧
   E.w.heap[b]? = some (.cells c fz.1 fz.2) ∧ CellsAt c off (szT P t) (vs ++ us))
 | .ref id n off len, v => id < E.nx ∧ n ≤ (E.h id).xs.length ∧ ∃ ad k, v = .slice (some ad) len k ∧ ((E.h id).lv = true → (E.h id).xs.length = n → off + len ≤ n ∧
  k = (E.m id).cap - off ∧ (k ≠ 0 → ad = ⟨(E.m id).b, (E.m id).base + off * szT P (E.h id).t, none⟩))
 | .own .., _ => False
 | .ptr id n i j, v => id < E.nx ∧ n ≤ (E.h id).xs.length ∧ ∃ ad, v = .pointer (some ad) ∧ ((E.h id).lv = true → (E.h id).xs.length = n → ad = ⟨(E.m id).b, (E.m id).base + i * szT P (E.h id).t + j, none⟩)
 | .cptr t x j, v => ∃ b off c, ∃ fz : TypeId × (Nat × Nat), ∃ u, v = .pointer (some ⟨b, off + j, none⟩) ∧ E.I b ∧ E.w.heap[b]? = some (.cells c fz.1 fz.2) ∧ rep P E x u ∧ x.cells.length = u.cells.size ∧ CellsAt c off u.cells.size [u]
 | .fn f first cap, v => ∃ vs us, v = .func f vs.toArray us.toArray ∧ repL P E first vs ∧ repL P E cap us
 | .agg cs, v => ∃ vs, v = .agg vs.toArray ∧ repL P E cs vs
 | .tup xs, v => ∃ vs, v = .tuple vs.toArray ∧ repL P E xs vs
def repL (P : Program) (E : Env) : List AV → List Value → Prop
 | [], vs => vs = []
 | x :: xs, vs => ∃ v us, vs = v :: us ∧ rep P E x v ∧ repL P E xs us
end
structure Env.Le (E E' : Env) : Prop where
 nx : E.nx ≤ E'.nx
 imm : ∀ b, E.I b → E'.I b ∧ E'.w.heap[b]? = E.w.heap[b]?
 len : ∀ id, id < E.nx → (E.h id).xs.length ≤ (E'.h id).xs.length
 prv : ∀ id, id < E.nx → ∀ n, n ≤ (E.h id).xs.length → (E'.h id).lv = true → (E'.h id).xs.length = n →
  (E.h id).lv = true ∧ (E.h id).xs.length = n ∧ (E'.h id).t = (E.h id).t ∧ E'.m id = E.m id
theorem Env.Le.refl (E : Env) : E.Le E := ⟨Nat.le_refl _, fun _ h => ⟨h, rfl⟩, fun _ _ => Nat.le_refl _, fun _ _ _ _ h1 h2 => ⟨h1, h2, rfl, rfl⟩⟩
theorem Env.Le.trans {A B C : Env} (h : A.Le B) (k : B.Le C) : A.Le C :=
 ⟨Nat.le_trans h.nx k.nx, fun b hb => ⟨(k.imm b (h.imm b hb).1).1, ((k.imm b (h.imm b hb).1).2).trans (h.imm b hb).2⟩,
  fun id hid => Nat.le_trans (h.len id hid) (k.len id (Nat.lt_of_lt_of_le hid h.nx)),
  fun id hid n hn h1 h2 => by
   obtain ⟨a1, a2, a3, a4⟩ := k.prv id (Nat.lt_of_lt_of_le hid h.nx) n (Nat.le_trans hn (h.len id hid)) h1 h2
   obtain ⟨b1, b2, b3, b4⟩ := h.prv id hid n hn a1 a2
   exact ⟨b1, b2, a3.trans b3, a4.trans b4⟩⟩
mutual
theorem CR {P : Program} {E E' : Env} (hE : E.Le E') : ∀ (x : AV) (v : Value), rep P E x v → rep P E' x v
 | .undef, _, _ => by simp [rep]
 | .bool b, v, h => by simpa [rep] using h
 | .int k n, v, h => by simpa [rep] using h
 | .str s, v, h => by simpa [rep] using h
 | .nil, v, h => by simpa [rep] using h
 | .sl t xs sp ex, v, h => by
  simp only [rep] at h ⊢
  obtain ⟨a, cap, h1, h2, h3, h7, vs, us, h4, h5, h6⟩ := h
  refine ⟨a, cap, h1, h2, h3, h7, vs, us, Ax hE xs vs h4, Ax hE sp us h5, fun hne => ?_⟩
  obtain ⟨b, off, c, fz, g1, g2, g3, g4⟩ := h6 hne
  exact ⟨b, off, c, fz, g1, (hE.imm b g2).1, by rw [(hE.imm b g2).2]; exact g3, g4⟩
 | .ref id n off len, v, h => by
  simp only [rep] at h ⊢
  obtain ⟨h0, h0', ad, k, hv, h1⟩ := h
  refine ⟨Nat.lt_of_lt_of_le h0 hE.nx, Nat.le_trans h0' (hE.len id h0), ad, k, hv, fun hl hn => ?_⟩
  obtain ⟨a1, a2, a3, a4⟩ := hE.prv id h0 n h0' hl hn
  rw [a3, a4]
  exact h1 a1 a2
 | .own .., _, h => by simp [rep] at h
 | .ptr id n i j, v, h => by
  simp only [rep] at h ⊢
  obtain ⟨h0, h0', ad, hv, h1⟩ := h
  refine ⟨Nat.lt_of_lt_of_le h0 hE.nx, Nat.le_trans h0' (hE.len id h0), ad, hv, fun hl hn => ?_⟩
  obtain ⟨a1, a2, a3, a4⟩ := hE.prv id h0 n h0' hl hn
  rw [a3, a4]
  exact h1 a1 a2
 | .cptr t x j, v, h => by
  simp only [rep] at h ⊢
  obtain ⟨b, off, c, fz, u, h1, h2, h3, h4, h6, h5⟩ := h
  exact ⟨b, off, c, fz, u, h1, (hE.imm b h2).1, by rw [(hE.imm b h2).2]; exact h3, CR hE x u h4, h6, h5⟩
 | .fn f first cap, v, h => by
  simp only [rep] at h ⊢
  obtain ⟨vs, us, h1, h2, h3⟩ := h
  exact ⟨vs, us, h1, Ax hE first vs h2, Ax hE cap us h3⟩
 | .agg cs, v, h => by
  simp only [rep] at h ⊢
  obtain ⟨vs, h1, h2⟩ := h
  exact ⟨vs, h1, Ax hE cs vs h2⟩
 | .tup xs, v, h => by
  simp only [rep] at h ⊢
  obtain ⟨vs, h1, h2⟩ := h
  exact ⟨vs, h1, Ax hE xs vs h2⟩
theorem Ax {P : Program} {E E' : Env} (hE : E.Le E') : ∀ (xs : List AV) (vs : List Value), repL P E xs vs → repL P E' xs vs
 | [], vs, h => by simpa [repL] using h
 | x :: xs, vs, h => by
  simp only [repL] at h ⊢
  obtain ⟨v, us, h1, h2, h3⟩ := h
  exact ⟨v, us, h1, CR hE x v h2, Ax hE xs us h3⟩
end
theorem AO {P : Program} {E : Env} : ∀ {xs : List AV} {vs : List Value}, repL P E xs vs → vs.length = xs.length
 | [], vs, h => by simp only [repL] at h; simp [h]
 | x :: xs, vs, h => by
  simp only [repL] at h
  obtain ⟨v, us, rfl, _, h3⟩ := h
  simp [AO h3]
theorem Ap {P : Program} {E : Env} : ∀ {xs ys : List AV} {vs us : List Value}, repL P E xs vs → repL P E ys us → repL P E (xs ++ ys) (vs ++ us)
 | [], ys, vs, us, h, k => by simp only [repL] at h; subst h; simpa using k
 | x :: xs, ys, vs, us, h, k => by
  simp only [repL] at h
  obtain ⟨v, vs', rfl, h2, h3⟩ := h
  simp only [List.cons_append, repL]
  exact ⟨v, vs' ++ us, rfl, h2, Ap h3 k⟩
theorem BI {P : Program} {E : Env} : ∀ {xs : List AV} {vs : List Value}, repL P E xs vs → ∀ (i : Nat) (x : AV), xs[i]? = some x → ∃ v, vs[i]? = some v ∧ rep P E x v
 | [], vs, h, i, x, hx => by simp at hx
 | y :: xs, vs, h, i, x, hx => by
  simp only [repL] at h
  obtain ⟨v, us, rfl, h2, h3⟩ := h
  cases i with
  | zero => simp only [List.getElem?_cons_zero, Option.some.injEq] at hx; subst hx; exact ⟨v, rfl, h2⟩
  | succ i => simpa using BI h3 i x (by simpa using hx)
theorem En {P : Program} {E : Env} : ∀ {xs : List AV} {vs : List Value}, vs.length = xs.length → (∀ (i : Nat) (x : AV) (v : Value), xs[i]? = some x → vs[i]? = some v → rep P E x v) → repL P E xs vs
 | [], vs, hl, _ => by simp only [repL]; simpa using hl
 | x :: xs, [], hl, _ => by simp at hl
 | x :: xs, v :: vs, hl, h => by
  simp only [repL]
  refine ⟨v, vs, rfl, h 0 x v rfl rfl, En (by simpa using hl) fun i x' v' hx hv => h (i + 1) x' v' (by simpa using hx) (by simpa using hv)⟩
theorem BV {P : Program} {E : Env} {xs : List AV} {vs : List Value} (h : repL P E xs vs) (n : Nat) : repL P E (xs.take n) (vs.take n) := by
 refine En (by simp [AO h]) fun i x v hx hv => ?_
 rw [List.getElem?_take] at hx hv
 split at hx
 ·rename_i hi; rw [if_pos hi] at hv
  obtain ⟨u, hu, hr⟩ := BI h i x hx
  rw [hu] at hv; cases hv; exact hr
 ·simp at hx
theorem BO {P : Program} {E : Env} {xs : List AV} {vs : List Value} (h : repL P E xs vs) (n : Nat) : repL P E (xs.drop n) (vs.drop n) := by
 refine En (by simp [AO h]) fun i x v hx hv => ?_
 rw [List.getElem?_drop] at hx hv
 obtain ⟨u, hu, hr⟩ := BI h _ x hx
 rw [hu] at hv; cases hv; exact hr
theorem PR {P : Program} {E : Env} {xs : List AV} {vs : List Value} (h : repL P E xs vs) (n : Nat) {x : AV} {v : Value} (hx : rep P E x v) : repL P E (xs.set n x) (vs.set n v) := by
 refine En (by simp [AO h]) fun i x' v' hx' hv' => ?_
 rw [List.getElem?_set] at hx' hv'
 by_cases hi : n = i
 ·subst hi
  simp only [if_true] at hx' hv'
  split at hx'
  ·rename_i hlt; rw [if_pos (by rw [AO h]; exact hlt)] at hv'; cases hx'; cases hv'; exact hx
  ·simp at hx'
 ·rw [if_neg hi] at hx' hv'
  obtain ⟨u, hu, hr⟩ := BI h i x' hx'
  rw [hu] at hv'; cases hv'; exact hr
theorem ER {P : Program} {E : Env} (n : Nat) {x : AV} {v : Value} (hx : rep P E x v) : repL P E (List.replicate n x) (List.replicate n v) := by
 refine En zS fun i x' v' hx' hv' => ?_
 rw [List.getElem?_replicate] at hx' hv'
 split at hx'
 ·rename_i hi; rw [if_pos hi] at hv'; cases hx'; cases hv'; exact hx
 ·simp at hx'
theorem Cf {P : Program} {E : Env} {x : AV} {v : Value} (h : rep P E x v) (hu : x.cells.length = v.cells.size) : repL P E x.cells v.cells.toList := by
 cases x <;> simp only [AV.cells, repL] at hu ⊢
 case agg cs =>
  simp only [rep] at h
  obtain ⟨vs, rfl, h2⟩ := h
  simpa [Value.cells] using h2
 case undef =>
  have hl : v.cells.toList.length = 1 := by simpa using hu.symm
  match hc : v.cells.toList, hl with
  | [u], _ => exact ⟨u, [], rfl, by simp [rep], rfl⟩
 all_goals
  refine ⟨v, [], ?_, h, rfl⟩
  simp only [rep] at h
 case bool => subst h; rfl
 case int => subst h; rfl
 case str => subst h; rfl
 case nil => obtain ⟨a, rfl⟩ := h; rfl
 case sl => obtain ⟨a, cap, rfl, _⟩ := h; rfl
 case ref => obtain ⟨_, _, ad, k, rfl, _⟩ := h; rfl
 case ptr => obtain ⟨_, _, ad, rfl, _⟩ := h; rfl
 case cptr => obtain ⟨b, off, c, fz, u, rfl, _⟩ := h; rfl
 case fn => obtain ⟨vs, us, rfl, _⟩ := h; rfl
 case tup => obtain ⟨vs, rfl, _⟩ := h; rfl
theorem PS {P : Program} {E : Env} {x : AV} {v : Value} (h : rep P E x v) (hu : x ≠ .undef) : x.cells.length = v.cells.size := by
 cases x <;> simp only [AV.cells] <;> simp only [rep] at h
 case undef => exact absurd rfl hu
 case agg cs => obtain ⟨vs, rfl, h2⟩ := h; simp [Value.cells, AO h2]
 case bool => subst h; rfl
 case int => subst h; rfl
 case str => subst h; rfl
 case nil => obtain ⟨a, rfl⟩ := h; rfl
 case sl => obtain ⟨a, cap, rfl, _⟩ := h; rfl
 case ref => obtain ⟨_, _, ad, k, rfl, _⟩ := h; rfl
 case ptr => obtain ⟨_, _, ad, rfl, _⟩ := h; rfl
 case cptr => obtain ⟨b, off, c, fz, u, rfl, _⟩ := h; rfl
 case fn => obtain ⟨vs, us, rfl, _⟩ := h; rfl
 case tup => obtain ⟨vs, rfl, _⟩ := h; rfl
theorem CI {P : Program} {t : Nat} {x : AV} (h : x.el P t = true) : x.cells.length = szT P t := by
 simp only [AV.el, Bool.and_eq_true, decide_eq_true_eq] at h; exact h.1
theorem D8 {P : Program} {t : Nat} {x : AV} (h : x.el P t = true) : ∀ c ∈ x.cells, c.one = true := by
 simp only [AV.el, Bool.and_eq_true, List.all_eq_true] at h; exact h.2
theorem Rw {P : Program} {E : Env} {x : AV} {v : Value} (h : rep P E x v) (h1 : x.one = true) : v.oneCell' = true := by
 cases x <;> simp only [AV.one] at h1 <;> try (simp at h1; done)
 all_goals simp only [rep] at h
 case bool => subst h; rfl
 case int => subst h; rfl
 case str => subst h; rfl
 case nil => obtain ⟨a, rfl⟩ := h; rfl
 case sl => obtain ⟨a, cap, rfl, _⟩ := h; rfl
 case ref => obtain ⟨_, _, ad, k, rfl, _⟩ := h; rfl
 case ptr => obtain ⟨_, _, ad, rfl, _⟩ := h; rfl
 case cptr => obtain ⟨b, off, c, fz, u, rfl, _⟩ := h; rfl
 case fn => obtain ⟨vs, us, rfl, _⟩ := h; rfl
theorem Fb {P : Program} {E : Env} : ∀ {xs : List AV} {vs : List Value}, repL P E xs vs → (∀ x ∈ xs, x.one = true) → ∀ v ∈ vs, v.oneCell' = true
 | [], vs, h, _, v, hv => by simp only [repL] at h; subst h; simp at hv
 | x :: xs, vs, h, h1, v, hv => by
  simp only [repL] at h
  obtain ⟨u, us, rfl, h2, h3⟩ := h
  rcases List.mem_cons.1 hv with rfl | hv
  ·exact Rw h2 (h1 x zS)
  ·exact Fb h3 (fun y hy => h1 y (by simp [hy])) v hv
structure BlkOk (P : Program) (E : Env) (id : Nat) : Prop where
 lt : id < E.nx
 gr : (E.h id).gr = true → (E.m id).base = 0
 ex : (E.h id).ex = true → (E.m id).cap = (E.h id).xs.length
 le : (E.h id).xs.length ≤ (E.m id).cap
 cl : ∀ x ∈ (E.h id).xs, x.el P (E.h id).t = true
 dark : ¬ E.I (E.m id).b
 at_ : ∃ c vs, E.w.heap[(E.m id).b]? = some (.cells c (E.h id).t (0, 0)) ∧ repL P E (E.h id).xs vs ∧ CellsAt c (E.m id).base (szT P (E.h id).t) vs ∧
  (E.m id).base + (E.m id).cap * szT P (E.h id).t ≤ c.size
def tabName : String := "internal/strconv.uint64pow10"
def tabNums : List Int := [1, 10, 100, 1000, 10000, 100000, 1000000, 10000000, 100000000, 1000000000, 10000000000, 100000000000, 1000000000000, 10000000000000, 100000000000000, 1000000000000000, 10000000000000000, 100000000000000000, 1000000000000000000, 10000000000000000000]
def Tab (P : Program) (w : World) (I : Nat → Prop) : Prop := ∀ g, P.globalNamed tabName = some g → I g ∧ Lib.TabIs P w tabName .u64 tabNums
theorem Tab.step {P : Program} {w w' : World} {I I' : Nat → Prop} (h : Tab P w I) (hs : ∀ b, I b → I' b ∧ w'.heap[b]? = w.heap[b]?) : Tab P w' I' := fun g hg => by
 obtain ⟨h1, h2⟩ := h g hg
 refine ⟨(hs g h1).1, ?_⟩
 unfold Lib.TabIs World.var? at h2 ⊢
 rw [hg, Option.bind_some] at h2 ⊢
 rw [(hs g h1).2]; exact h2
theorem Tab.le {P : Program} {E E' : Env} (h : Tab P E.w E.I) (hle : E.Le E') : Tab P E'.w E'.I := h.step hle.imm
structure Ok (P : Program) (E : Env) : Prop where
 blk : ∀ id, (E.h id).lv = true → BlkOk P E id
 inj : ∀ i j, (E.h i).lv = true → (E.h j).lv = true → (E.m i).b = (E.m j).b → i = j
 imm : ∀ b, E.I b → b < E.w.heap.size
 tab : Tab P E.w E.I
def Env.lim (E : Env) (id : Nat) : Nat := if (E.h id).gr then (E.m id).cap else (E.h id).xs.length
structure Goes (P : Program) (E E' : Env) : Prop where
 os : E'.w.os = E.w.os
 tape : E'.w.tape = E.w.tape
 output : E'.w.output = E.w.output
 size : E.w.heap.size ≤ E'.w.heap.size
 keep : ∀ b, b < E.w.heap.size → (∀ id, (E.h id).lv = true → (E.m id).b ≠ b) → E'.w.heap[b]? = E.w.heap[b]?
 part : ∀ id, (E.h id).lv = true → ∀ c, E.w.heap[(E.m id).b]? = some (.cells c (E.h id).t (0, 0)) → ∃ c', E'.w.heap[(E.m id).b]? = some (.cells c' (E.h id).t (0, 0)) ∧ c'.size = c.size ∧
  ∀ j, (j < (E.m id).base ∨ (E.m id).base + E.lim id * szT P (E.h id).t ≤ j) → c'[j]? = c[j]?
 locs : ∀ id, (E'.h id).lv = true → ((E.h id).lv = true ∧ E'.m id = E.m id ∧ (E'.h id).t = (E.h id).t ∧ E'.lim id = E.lim id) ∨ (E.w.heap.size ≤ (E'.m id).b ∧ (E.nx ≤ id ∨ (E.h id).gr = true))
 dark : ∀ b, E'.I b → E.I b ∨ E.w.heap.size ≤ b ∨ ∃ id, (E.h id).lv = true ∧ (E.h id).gr = true ∧ (E.m id).b = b
 nx : E.nx ≤ E'.nx
 grs : ∀ id, id < E.nx → (E'.h id).gr = (E.h id).gr
theorem Goes.refl (P : Program) (E : Env) : Goes P E E :=
 ⟨rfl, rfl, rfl, Nat.le_refl _, fun _ _ _ => rfl, fun _ _ c h => ⟨c, h, rfl, fun _ _ => rfl⟩, fun _ h => .inl ⟨h, rfl, rfl, rfl⟩, fun _ h => .inl h, Nat.le_refl _, fun _ _ => rfl⟩
theorem HF {P : Program} {E : Env} (v : Value) : rep P E (ofCell v) v := by
 unfold ofCell
 split <;> simp [rep]
theorem Ga {P : Program} {E : Env} : ∀ vs : List Value, repL P E (vs.map ofCell) vs
 | [] => by simp [repL]
 | v :: vs => by simp only [List.map_cons, repL]; exact ⟨v, vs, rfl, HF v, Ga vs⟩
theorem CL {P : Program} {E : Env} (v : Value) : rep P E (ofVal v) v := by
 unfold ofVal
 split
 ·rename_i cs
  simp only [rep]
  exact ⟨cs.toList, zS, Ga _⟩
 ·exact HF v
theorem HG {P : Program} {E : Env} {st : St} {a : Act} (hf : ∀ t, rep P E (st.fr t) (a.tmps.getD t undef)) (x : Operand) : rep P E (st.ev x) (a.eval x) := by
 cases x with
 | tmp t => exact hf t
 | const v => exact CL v
 | global g => simp [St.ev, rep]
 | func f => simp only [St.ev, Act.eval, rep]; exact ⟨[], [], rfl, by simp [repL], by simp [repL]⟩
theorem AK {P : Program} {w : World} {t : TypeId} {d : TypeDesc} (h : P.underlying t = some d) : (underlying t).run P w = .ok d w := by
 simp [underlying, go_sem, h]
theorem CS {P : Program} {w : World} {t : TypeId} {d : TypeInfo} (h : P.info? t = some d) : (typeInfo t).run P w = .ok d w := by
 simp [typeInfo, go_sem, h]
theorem A4 {P : Program} {w : World} {t : TypeId} {d : TypeInfo} (h : P.info? t = some d) : (sizeOf t).run P w = .ok (szT P t) w := by
 simp [sizeOf, typeInfo, go_sem, h, szT]
theorem Dp {P : Program} {E : Env} {b : Bool} {v : Value} (h : rep P E (.bool b) v) : v = .bool b := by simpa [rep] using h
theorem Be {P : Program} {E : Env} {k : IntKind} {n : Int} {v : Value} (h : rep P E (.int k n) v) : v = .int k n := by simpa [rep] using h
theorem Eo {P : Program} {E : Env} {s : List UInt8} {v : Value} (h : rep P E (.str s) v) : v = .string ⟨s.toArray⟩ := by simpa [rep] using h
theorem KP {P : Program} {E : Env} {op : BinOp} {t : TypeId} {k k' : IntKind} {a b : Int} {z : AV} {w : World} (h : binA op (.int k a) (.int k' b) = some z) :
    ∃ r, (binOp op t (.int k a) (.int k' b)).run P w = .ok r w ∧ rep P E z r := by
  cases op <;> simp only [binA, intA] at h <;>
    first
      | (split at h
         · rename_i hk; subst hk
           split at h
           · simp at h
           · rename_i hb; simp only [Option.some.injEq] at h; subst h; exact ⟨_, by simp only [binOp, Op.intDiv]; rw [if_neg (by simp), if_neg hb]; rfl, by simp [rep]⟩
         · simp at h)
      | (split at h
         · simp at h
         · rename_i hb; cases h; exact ⟨_, by simp only [binOp, Op.shift]; rw [if_neg hb]; rfl, by simp [rep]⟩)
      | (split at h
         · rename_i hk; subst hk; cases h; exact ⟨_, by simp [binOp, Op.intArith, Op.intCmp, Op.intBits]; rfl, by simp [rep]⟩
         · simp at h)
      | (split at h
         · rename_i hk; subst hk; simp at h
         · simp at h)
theorem Ia {P : Program} {E : Env} {op : BinOp} {t : TypeId} {x y : Operand} {ax ay z : AV} {u v : Value} {w : World} (hb : ∀ b, ax = .bool b → P.underlying t = some .bool) (h : binA op ax ay = some z) (hx : rep P E ax u) (hy : rep P E ay v) :
  ∃ r, (do eqGuard op t x y u v; binOp op t u v : Sem Value).run P w = .ok r w ∧ rep P E z r := by
 unfold binA at h
 split at h
 ·rename_i k a k' b
  cases Be hx; cases Be hy
  have hg : (eqGuard op t x y (.int k a) (.int k' b)).run P w = .ok () w := by
   unfold eqGuard; cases op <;> rfl
  obtain ⟨r, h1, h2⟩ := KP (t := t) (w := w) (E := E) (P := P) (show binA op (.int k a) (.int k' b) = some z from h)
  exact ⟨r, by simp [hg, h1], h2⟩
 ·rename_i a b
  cases Eo hx; cases Eo hy
  have hg : (eqGuard op t x y (.string ⟨a.toArray⟩) (.string ⟨b.toArray⟩)).run P w = .ok () w := by
   unfold eqGuard; cases op <;> rfl
  have hl : ∀ l : List UInt8, (ByteArray.mk l.toArray).toList = l := fun l => by
   rw [ByteArray.toList_eq]
  cases op <;> simp only at h <;> try (simp at h; done)
  ·split at h
   ·rename_i hle; cases h
    refine ⟨.string ⟨(a ++ b).toArray⟩, ?_, by simp [rep]⟩
    have hs : ¬ ((((ByteArray.mk a.toArray).size + (ByteArray.mk b.toArray).size : Nat) : Int) > IntKind.i64.max) := by
     have h1 : (ByteArray.mk a.toArray).size = a.length := by simp [ByteArray.size]
     have h2 : (ByteArray.mk b.toArray).size = b.length := by simp [ByteArray.size]
     have h3 : IntKind.i64.max = 9223372036854775807 := by decide
     rw [h1, h2, h3]; omega
    simp only [Sem.run_bind, hg, Result.andThen_ok, binOp, Op.stringOp]
    rw [if_neg hs]
    simp only [Sem.run_pure]
    congr 2
   ·simp at h
  ·cases h
   exact ⟨.bool (a == b), by simp [hg, binOp, Op.stringOp, hl], by simp [rep]⟩
  ·cases h
   exact ⟨.bool (!(a == b)), by simp [hg, binOp, Op.stringOp, hl], by simp [rep]⟩
 ·rename_i a b
  cases Dp hx; cases Dp hy
  have hg : (eqGuard op t x y (.bool a) (.bool b)).run P w = .ok () w := by
   unfold eqGuard; cases op <;> rfl
  cases op <;> simp only at h <;> try (simp at h; done)
  ·cases h
   exact ⟨.bool (a == b), by
    have he : (Op.equal t (.bool a) (.bool b)).run P w = .ok (a == b) w := run_equalIn_bool' w 9999 t a b (hb a rfl)
    simp only [Sem.run_bind, hg, Result.andThen_ok, binOp, he, Sem.run_pure], by simp [rep]⟩
  ·cases h
   exact ⟨.bool (!(a == b)), by
    have he : (Op.equal t (.bool a) (.bool b)).run P w = .ok (a == b) w := run_equalIn_bool' w 9999 t a b (hb a rfl)
    simp only [Sem.run_bind, hg, Result.andThen_ok, binOp, he, Sem.run_pure], by simp [rep]⟩
 ·simp at h
theorem Rx {v : Value} (h : nilV v = true) : v = .slice none 0 0 := by
 unfold nilV at h
 split at h
 ·rfl
 ·cases h
theorem Gz {P : Program} {w : World} {t e : Nat} (d : Nat) {a : Addr} {n c : Nat} (hu : P.underlying t = some (.slice e)) : (Op.equalIn (d + 1) t (.slice (some a) n c) (.slice none 0 0)).run P w = .ok false w := by
 simp [Op.equalIn, AK hu]
theorem FE {P : Program} {w : World} {t e : Nat} {a : Addr} {n c : Nat} (h : elT P t = some e) : (Op.equal t (.slice (some a) n c) (.slice none 0 0)).run P w = .ok false w := by
 have hu : P.underlying t = some (.slice e) := by
  unfold elT at h
  split at h
  ·rename_i e' he; cases h; exact he
  ·cases h
 exact Gz 9999 hu
theorem Lr {P : Program} {E : Env} {op : BinOp} {t : TypeId} {x y : Operand} {ax ay z : AV} {u v : Value} {w : World} (hb : ∀ b, ax = .bool b → P.underlying t = some .bool) (h : binN P op t y ax ay = some z) (hx : rep P E ax u) (hy : rep P E ay v) (hc : ∀ c, y = .const c → v = c) :
  ∃ r, (do eqGuard op t x y u v; binOp op t u v : Sem Value).run P w = .ok r w ∧ rep P E z r := by
 unfold binN at h
 split at h
 ·rename_i c
  split at h
  ·rename_i hn
   obtain rfl := hc c rfl
   obtain rfl := Rx hn
   have key : ∀ (T : Nat) (xs sp : List AV) (ex : Bool), ax = .sl T xs sp ex → xs.length ≠ 0 → ∃ a n k, u = .slice (some a) n k := by
    intro T xs sp ex e hl
    subst e
    simp only [rep] at hx
    obtain ⟨a, cap, hu, _, _, _, _, _, _, _, h5⟩ := hx
    obtain ⟨b, off, c, fz, ha, _⟩ := h5 zO
    exact ⟨_, _, _, by rw [hu, ha]⟩
   split at h
   ·rename_i T xs sp ex
    split at h
    ·rename_i hl
     cases h
     obtain ⟨a, n, k, rfl⟩ := key _ _ _ _ rfl hl.1
     obtain ⟨e, he⟩ := Option.isSome_iff_exists.1 hl.2
     exact ⟨.bool false, by simp [eqGuard, binOp, FE he], by simp [rep]⟩
    ·cases h
   ·rename_i T xs sp ex
    split at h
    ·rename_i hl
     cases h
     obtain ⟨a, n, k, rfl⟩ := key _ _ _ _ rfl hl.1
     obtain ⟨e, he⟩ := Option.isSome_iff_exists.1 hl.2
     exact ⟨.bool true, by simp [eqGuard, binOp, FE he], by simp [rep]⟩
    ·cases h
   ·cases h
  ·exact Ia hb h hx hy
 ·exact Ia hb h hx hy
theorem PT {P : Program} {E : Env} {op : UnOp} {ax z : AV} {u : Value} {w : World} (h : unA op ax = some z) (hx : rep P E ax u) :
  ∃ r, (Op.unary op u).run P w = .ok r w ∧ rep P E z r := by
 unfold unA at h
 split at h
 ·cases Be hx; cases h; exact ⟨_, rfl, by simp [rep]⟩
 ·cases Dp hx; cases h; exact ⟨_, rfl, by simp [rep]⟩
 ·simp at h
theorem Ls {P : Program} {E : Env} {src dst : TypeId} {ax z : AV} {u : Value} {w : World} (hs : (P.underlying src).isSome) (h : convA P dst ax = some z) (hx : rep P E ax u) :
  ∃ r, (convert src dst u).run P w = .ok r w ∧ rep P E z r := by
 obtain ⟨ds, hs⟩ := Option.isSome_iff_exists.1 hs
 unfold convA at h
 split at h
 ·rename_i k k' n hd
  cases Be hx; cases h
  exact ⟨.int k (k.wrap n), by simp [convert, AK hs, AK hd, Conv.intToInt], by simp [rep]⟩
 ·rename_i s hd
  cases Eo hx; cases h
  refine ⟨.string ⟨s.toArray⟩, by simp [convert, AK hs, AK hd], by simp [rep]⟩
 ·simp at h
theorem Ry {P : Program} {E : Env} {t : Nat} {cs : List AV} {vs : List Value} {j : Nat} {z : AV} {w : World} {d : TypeDesc} {i : TypeInfo}
  (hd : P.underlying t = some d) (hi : P.info? t = some i) (h : partA P t cs j = some z) (hv : repL P E cs vs) :
  ∃ r, (part t vs.toArray j).run P w = .ok r w ∧ rep P E z r := by
 unfold partA at h
 by_cases ha : aggT P t
 ·rw [if_pos ha] at h
  split at h
  ·rename_i hle; cases h
   refine ⟨.agg (vs.toArray.extract j (j + szT P t)), ?_, ?_⟩
   ·unfold part isAgg
    have : d matches .struct _ ∨ d matches .array .. := by
     simp only [aggT, hd] at ha
     cases d <;> simp_all
    simp only [Sem.run_bind, AK hd, Result.andThen_ok, A4 hi]
    cases d <;> simp_all [go_sem, A4 hi]
   ·simp only [rep]
    refine ⟨(vs.drop j).take (szT P t), ?_, BV (BO hv j) _⟩
    simp [List.extract_eq_take_drop]
  ·simp at h
 ·rw [if_neg ha] at h
  obtain ⟨r, hr, hrep⟩ := BI hv j z h
  refine ⟨r, ?_, hrep⟩
  unfold part isAgg
  simp only [Sem.run_bind, AK hd, Result.andThen_ok]
  simp only [aggT, hd] at ha
  cases d <;> simp_all [go_sem]
theorem IP {P : Program} {E : Env} {vs : List AV} {u : Value} {i : Nat} {z : AV} {w : World} (hx : rep P E (.tup vs) u) (h : vs[i]? = some z) :
  ∃ r, (Instr.extract u i).run P w = .ok r w ∧ rep P E z r := by
 simp only [rep] at hx
 obtain ⟨us, rfl, h2⟩ := hx
 obtain ⟨r, hr, hrep⟩ := BI h2 i z h
 exact ⟨r, by simp [Instr.extract, hr, go_sem], hrep⟩
theorem Fc {P : Program} {E : Env} {st : St} {a : Act} (hf : ∀ t, rep P E (st.fr t) (a.tmps.getD t undef)) : ∀ xs : List Operand, repL P E (xs.map st.ev) (xs.map a.eval)
 | [] => by simp [repL]
 | x :: xs => by simp only [List.map_cons, repL]; exact ⟨_, _, rfl, HG hf x, Fc hf xs⟩
theorem JQ {P : Program} {E : Env} {t : TypeId} {s : List UInt8} {u v : Value} {k : IntKind} {i : Int} {b : UInt8} {w : World} (ht : P.underlying t = some .string)
  (hx : rep P E (.str s) u) (hi : rep P E (.int k i) v) (h0 : 0 ≤ i) (h : s[i.toNat]? = some b) :
  (Instr.index t u v).run P w = .ok (.int .u8 b.toNat) w := by
 cases Eo hx; cases Be hi
 have hg : (ByteArray.mk s.toArray)[i.toNat]? = some b := by
  have : i.toNat < s.length := by
   rcases Nat.lt_or_ge i.toNat s.length with h' | h'
   ·exact h'
   ·rw [List.getElem?_eq_none h'] at h; cases h
  rw [List.getElem?_eq_getElem this] at h
  rw [getElem?_pos _ _ (by show i.toNat < (ByteArray.mk s.toArray).size; simpa [ByteArray.size] using this)]
  cases h; rfl
 simp only [Instr.index, asIntOf, Sem.run_bind, Sem.run_pure, Result.andThen_ok, AK ht]
 rw [if_pos h0, hg]
 rfl
theorem Ep {P : Program} {E : Env} {ax : AV} {u : Value} {y l : Nat} {c : BoundsCode} {w : World} (h : bndA ax y = some l) (hx : rep P E ax u) :
  (Instr.sliceBound u y c).run P w = .ok l w := by
 unfold bndA at h
 split at h
 ·split at h
  ·rename_i hc; cases h; cases Be hx
   simp only [Instr.sliceBound, asIntOf, Sem.run_bind, Sem.run_pure, Result.andThen_ok]
   rw [if_pos hc]; rfl
  ·simp at h
 ·simp at h
theorem C7 {P : Program} {E : Env} {lo hi : Option AV} {ulo uhi : Option Value} {len cap l h : Nat} {is : Bool} {w : World} (hb : bounds2 len cap lo hi = some (l, h))
  (hlo : ∀ x, lo = some x → ∃ u, ulo = some u ∧ rep P E x u) (hlo' : lo = none → ulo = none) (hhi : ∀ x, hi = some x → ∃ u, uhi = some u ∧ rep P E x u) (hhi' : hi = none → uhi = none) :
  (Instr.sliceBounds is len cap ulo uhi none).run P w = .ok (l, h, cap) w := by
 unfold bounds2 at hb
 cases hi with
 | none =>
  rw [hhi' rfl]
  simp only at hb
  cases lo with
  | none => rw [hlo' rfl]; simp at hb; obtain ⟨rfl, rfl⟩ := hb; simp [Instr.sliceBounds]
  | some x =>
   obtain ⟨u, rfl, hr⟩ := hlo x rfl
   simp only [Option.map_eq_some_iff, Prod.mk.injEq] at hb
   obtain ⟨a, ha, rfl, rfl⟩ := hb
   simp [Instr.sliceBounds, Ep ha hr]
 | some y =>
  obtain ⟨v, rfl, hr'⟩ := hhi y rfl
  simp only at hb
  cases hy : bndA y cap with
  | none => rw [hy] at hb; simp at hb
  | some h' =>
   rw [hy] at hb
   cases lo with
   | none => rw [hlo' rfl]; simp at hb; obtain ⟨rfl, rfl⟩ := hb; simp [Instr.sliceBounds, Ep hy hr']
   | some x =>
    obtain ⟨u, rfl, hr⟩ := hlo x rfl
    simp only [Option.map_eq_some_iff, Prod.mk.injEq] at hb
    obtain ⟨a, ha, rfl, rfl⟩ := hb
    simp [Instr.sliceBounds, Ep hy hr', Ep ha hr]
theorem Gb {len cap cap' : Nat} {lo hi : Option AV} {p : Nat × Nat} (hb : bounds2 len cap lo hi = some p) (hle : cap ≤ cap') : bounds2 len cap' lo hi = some p := by
 unfold bounds2 at hb ⊢
 cases hi with
 | none => exact hb
 | some y =>
  simp only at hb ⊢
  cases hy : bndA y cap with
  | none => rw [hy] at hb; simp at hb
  | some k =>
   have : bndA y cap' = some k := by
    unfold bndA at hy ⊢
    split at hy
    ·split at hy
     ·rename_i hc; rw [if_pos zO]; exact hy
     ·cases hy
    ·cases hy
   rw [hy] at hb; rw [this]; exact hb
theorem F6 {len cap l h : Nat} {lo hi : Option AV} (hb : bounds2 len cap lo hi = some (l, h)) (hle : len ≤ cap) : l ≤ h ∧ h ≤ cap := by
 unfold bounds2 at hb
 have hbnd : ∀ {x : AV} {y i : Nat}, bndA x y = some i → i ≤ y := by
  intro x y i hx
  unfold bndA at hx
  split at hx
  ·split at hx
   ·cases hx; omega
   ·simp at hx
  ·simp at hx
 cases hi with
 | none =>
  simp only at hb
  cases lo with
  | none => simp at hb; omega
  | some x => simp only [Option.map_eq_some_iff, Prod.mk.injEq] at hb; obtain ⟨a, ha, rfl, rfl⟩ := hb; exact ⟨hbnd ha, hle⟩
 | some y =>
  simp only at hb
  cases hy : bndA y cap with
  | none => rw [hy] at hb; simp at hb
  | some h' =>
   rw [hy] at hb
   have := hbnd hy
   cases lo with
   | none => simp at hb; omega
   | some x => simp only [Option.map_eq_some_iff, Prod.mk.injEq] at hb; obtain ⟨a, ha, rfl, rfl⟩ := hb; exact ⟨hbnd ha, this⟩
theorem DQ (b off n : Nat) : (⟨b, off, none⟩ : Addr).add n = ⟨b, off + n, none⟩ := by unfold Addr.add; split <;> simp_all
theorem JR {w : World} {b o : Nat} {c : Array Value} {t : TypeId} {fz : Nat × Nat} (h : w.heap[b]? = some (.cells c t fz)) : w.cell? ⟨b, o, none⟩ = c[o]? := by
 simp [World.cell?, h]
theorem D9 {P : Program} {w : World} {t : TypeId} (h : (P.info? t).isSome) : (sizeOf t).run P w = .ok (szT P t) w := by
 obtain ⟨i, hi⟩ := Option.isSome_iff_exists.1 h
 exact A4 hi
theorem Er {P : Program} {t : Nat} (h : okT P t = true) : ∃ d i, P.underlying t = some d ∧ P.info? t = some i := by
 simp only [okT, Bool.and_eq_true] at h
 obtain ⟨d, hd⟩ := Option.isSome_iff_exists.1 h.1
 obtain ⟨i, hi⟩ := Option.isSome_iff_exists.1 h.2
 exact ⟨d, i, hd, hi⟩
theorem BB {P : Program} {t e : Nat} (h : elT P t = some e) : P.underlying t = some (.slice e) := by
 unfold elT at h
 split at h
 ·rename_i e' he; cases h; exact he
 ·cases h
theorem Fd {P : Program} {t : Nat} (h : strT P t = true) : P.underlying t = some .string := by
 unfold strT at h
 split at h
 ·rename_i he; exact he
 ·cases h
theorem N7 {P : Program} {t : Nat} (h : boolT P t = true) : P.underlying t = some .bool := by
 unfold boolT at h
 split at h
 ·rename_i he; exact he
 ·cases h
theorem FF {P : Program} {E : Env} {t b o j : Nat} {c : Array Value} {t' : TypeId} {fz : Nat × Nat} {cs : List AV} {L : List Value} {z : AV} (hok : okT P t = true)
  (hb : E.w.heap[b]? = some (.cells c t' fz)) (hL : ∀ k v, L[k]? = some v → c[o + k]? = some v) (hr : repL P E cs L) (h : partA P t cs j = some z) :
  ∃ r, (loadVar t ⟨b, o + j, none⟩).run P E.w = .ok r E.w ∧ rep P E z r := by
 obtain ⟨d, i, hd, hi⟩ := Er hok
 unfold partA at h
 by_cases ha : aggT P t
 ·rw [if_pos ha] at h
  split at h
  ·rename_i hle; cases h
   have hlen : ((L.drop j).take (szT P t)).length = szT P t := by
    rw [List.length_take, List.length_drop, AO hr]; omega
   have hload : (loadCells ⟨b, o + j, none⟩ (szT P t)).run P E.w = .ok ((L.drop j).take (szT P t)).toArray E.w := by
    have := run_loadCells_list (P := P) E.w ⟨b, o + j, none⟩ ((L.drop j).take (szT P t)) (fun k v hk => by
     rw [List.getElem?_take] at hk
     split at hk
     ·rw [List.getElem?_drop] at hk
      rw [DQ, JR hb, Nat.add_assoc]
      exact hL _ _ hk
     ·cases hk)
    rwa [hlen] at this
   refine ⟨.agg ((L.drop j).take (szT P t)).toArray, ?_, ?_⟩
   ·unfold loadVar isAgg
    simp only [Sem.run_bind, AK hd, Result.andThen_ok]
    simp only [aggT, hd] at ha
    cases d <;> simp_all [go_sem, A4 hi]
   ·simp only [rep]
    exact ⟨_, rfl, BV (BO hr j) _⟩
  ·simp at h
 ·rw [if_neg ha] at h
  obtain ⟨r, hr', hrep⟩ := BI hr j z h
  refine ⟨r, ?_, hrep⟩
  have hc : E.w.cell? ⟨b, o + j, none⟩ = some r := by rw [JR hb]; exact hL _ _ hr'
  unfold loadVar isAgg
  simp only [Sem.run_bind, AK hd, Result.andThen_ok]
  simp only [aggT, hd] at ha
  cases d <;> simp_all [go_sem]
theorem HH {P : Program} {E : Env} {st : St} {t : Nat} {ax z : AV} {u : Value} (hE : Ok P E) (hh : st.h = E.h) (hok : okT P t = true) (h : loadA P st t ax = some z) (hx : rep P E ax u) :
  ∃ r, (Instr.loadAt t u).run P E.w = .ok r E.w ∧ rep P E z r := by
 unfold loadA at h
 split at h
 ·rename_i t' x j
  simp only [rep] at hx
  obtain ⟨b, off, c, fz, v, rfl, _, hb, hv, hsz, hc⟩ := hx
  obtain ⟨r, h1, h2⟩ := FF (L := v.cells.toList) (o := off) (cs := x.cells) hok hb (fun k y hk => by
   have := (hc 0 v rfl).2 k y (by simpa using hk)
   simpa using this) (Cf hv hsz) h
  exact ⟨r, by simp [Instr.loadAt, Instr.sureAddr, h1], h2⟩
 ·rename_i id n i j
  split at h
  ·rename_i hlv
   rw [hh] at hlv h
   obtain ⟨hlv, hn⟩ := hlv
   simp only [rep] at hx
   obtain ⟨_, _, ad, rfl, had⟩ := hx
   cases had hlv hn
   cases hxi : (E.h id).xs[i]? with
   | none => rw [hxi] at h; simp at h
   | some x =>
    rw [hxi] at h
    simp only [Option.bind_some] at h
    have B := hE.blk id hlv
    obtain ⟨c, vs, hb, hrl, hca, _⟩ := B.at_
    obtain ⟨v, hvi, hv⟩ := BI hrl i x hxi
    have hcl := B.cl x (List.mem_of_getElem? hxi)
    obtain ⟨hs1, hs2⟩ := hca i v hvi
    obtain ⟨r, h1, h2⟩ := FF (L := v.cells.toList) (o := (E.m id).base + i * szT P (E.h id).t) (cs := x.cells) hok hb (fun k y hk => hs2 k y (by simpa using hk)) (Cf hv (by rw [hs1, CI hcl])) h
    exact ⟨r, by simp [Instr.loadAt, Instr.sureAddr, h1], h2⟩
  ·simp at h
 ·simp at h
theorem N8 {P : Program} {E : Env} {st : St} {t ty : Nat} {ax : AV} {u : Value} {n : Int} {w : World} (ht : lenT P t ax = true) (h : lenA st ax = some n) (hx : rep P E ax u) :
  (Builtin.len_ #[t] ty #[u]).run P w = .ok (.int .i64 n) w := by
 unfold lenA at h
 split at h <;> simp only [lenT] at ht
 ·cases Eo hx; cases h
  simp only [Builtin.len_, List.getElem?_toArray, List.getElem?_cons_zero, Sem.run_bind, AK (Fd ht), Result.andThen_ok]
  simp [goInt, ByteArray.size]
 ·obtain ⟨e, he⟩ := Option.isSome_iff_exists.1 ht
  simp only [rep] at hx; obtain ⟨a, rfl⟩ := hx; cases h
  simp [Builtin.len_, AK (BB he), goInt]
 ·obtain ⟨e, he⟩ := Option.isSome_iff_exists.1 ht
  simp only [rep] at hx; obtain ⟨a, cap, rfl, _⟩ := hx; cases h
  simp [Builtin.len_, AK (BB he), goInt]
 ·obtain ⟨e, he⟩ := Option.isSome_iff_exists.1 ht
  simp only [rep] at hx; obtain ⟨_, _, ad, k, rfl, _⟩ := hx
  split at h
  ·cases h; simp [Builtin.len_, AK (BB he), goInt]
  ·cases h
 ·simp at h
theorem CellsAt.get {c : Array Value} {off sz : Nat} {vs : List Value} (h : CellsAt c off sz vs) {i : Nat} {v : Value} (hi : vs[i]? = some v) : CellsAt c (off + i * sz) v.cells.size [v] := by
 intro k u hk
 cases k with
 | succ k => simp at hk
 | zero =>
  simp only [List.getElem?_cons_zero, Option.some.injEq] at hk
  subst hk
  refine ⟨rfl, fun j y hj => ?_⟩
  have := (h i v hi).2 j y hj
  simpa using this
theorem CellsAt.drop {c : Array Value} {off sz : Nat} {vs : List Value} (h : CellsAt c off sz vs) (n : Nat) : CellsAt c (off + n * sz) sz (vs.drop n) := by
 intro i v hi
 rw [List.getElem?_drop] at hi
 obtain ⟨h1, h2⟩ := h _ _ hi
 refine ⟨h1, fun j u hj => ?_⟩
 have := h2 j u hj
 rw [Nat.add_mul] at this
 rw [← this]; congr 1; omega
theorem CellsAt.take {c : Array Value} {off sz : Nat} {vs : List Value} (h : CellsAt c off sz vs) (n : Nat) : CellsAt c off sz (vs.take n) := by
 intro i v hi
 rw [List.getElem?_take] at hi
 split at hi
 ·exact h _ _ hi
 ·cases hi
theorem G0 {P : Program} {E : Env} {st : St} {xt : Nat} {ax ai z : AV} {u v : Value} (hE : Ok P E) (hh : st.h = E.h) (h : indexAddrA P st xt ax ai = some z) (hx : rep P E ax u) (hi : rep P E ai v) :
  ∃ r, (Instr.indexAt xt u v).run P E.w = .ok r E.w ∧ rep P E z r := by
 unfold indexAddrA at h
 split at h
 ·rename_i t xs sp ex k i
  split at h
  ·rename_i hc
   obtain ⟨hel, hin, h0, hlt⟩ := hc
   cases Be hi
   simp only [Option.map_eq_some_iff] at h
   obtain ⟨x, hxi, rfl⟩ := h
   simp only [rep] at hx
   obtain ⟨a, cap, rfl, _, _, hcl, vs, us, hvs, hus, hne⟩ := hx
   have hlt' : i.toNat < xs.length := by omega
   obtain ⟨b, off, c, fz, rfl, hI, hb, hca⟩ := hne zO
   obtain ⟨y, hy, hry⟩ := BI hvs _ _ hxi
   have hy' : (vs ++ us)[i.toNat]? = some y := by
    rw [List.getElem?_append_left (by rw [AO hvs]; exact hlt')]; exact hy
   obtain ⟨hs1, hs2⟩ := hca _ _ hy'
   refine ⟨.pointer (some ⟨b, off + i.toNat * szT P t, none⟩), ?_, ?_⟩
   ·simp only [Instr.indexAt, asIntOf, Sem.run_bind, Sem.run_pure, Result.andThen_ok, AK (BB hel)]
    rw [if_pos ⟨h0, hlt⟩]
    simp [D9 hin, DQ]
   ·simp only [rep, Nat.add_zero]
    exact ⟨b, off + i.toNat * szT P t, c, fz, y, rfl, hI, hb, hry, by rw [hs1]; exact CI (hcl x (by rw [List.mem_append]; exact .inl (List.mem_of_getElem? hxi))), hca.get hy'⟩
  ·cases h
 ·rename_i id n off len k i
  split at h
  ·rename_i hc
   rw [hh] at hc
   obtain ⟨hlv, hn, hel, hin, hle⟩ := hc
   split at h
   ·rename_i hi'
    cases Be hi; cases h
    simp only [rep] at hx
    obtain ⟨hid, hnl, ad, kk, rfl, hx⟩ := hx
    obtain ⟨h1, h2, h3⟩ := hx hlv hn
    have B := hE.blk id hlv
    have hcap := B.le
    have : kk ≠ 0 := by omega
    cases h3 this
    refine ⟨.pointer (some ⟨(E.m id).b, (E.m id).base + off * szT P (E.h id).t + i.toNat * szT P (E.h id).t, none⟩), ?_, ?_⟩
    ·simp only [Instr.indexAt, asIntOf, Sem.run_bind, Sem.run_pure, Result.andThen_ok, AK (BB hel)]
     rw [if_pos hi']
     simp [D9 hin, DQ]
    ·simp only [rep]
     refine ⟨hid, hnl, _, rfl, fun _ _ => ?_⟩
     congr 1
     rw [Nat.add_mul]; omega
   ·cases h
  ·cases h
 ·cases h
theorem KQ {P : Program} {E : Env} {st : St} {xt : Nat} {ax z : AV} {lo hi : Option AV} {ulo uhi : Option Value} {u : Value} (hE : Ok P E) (hh : st.h = E.h) (h : sliceA P st xt ax lo hi none = some z) (hx : rep P E ax u)
  (hlo : ∀ x, lo = some x → ∃ u, ulo = some u ∧ rep P E x u) (hlo' : lo = none → ulo = none) (hhi : ∀ x, hi = some x → ∃ u, uhi = some u ∧ rep P E x u) (hhi' : hi = none → uhi = none) :
  ∃ r, (Instr.sliceAt xt u ulo uhi none).run P E.w = .ok r E.w ∧ rep P E z r := by
 unfold sliceA at h
 simp only at h
 split at h
 ·rename_i s
  split at h
  ·rename_i hst
   simp only [Option.map_eq_some_iff] at h
   obtain ⟨⟨l, k⟩, hb, rfl⟩ := h
   cases Eo hx
   have hbs := C7 (is := false) (w := E.w) hb hlo hlo' hhi hhi'
   have hsz : (ByteArray.mk s.toArray).size = s.length := by simp [ByteArray.size]
   refine ⟨.string ⟨((s.take k).drop l).toArray⟩, ?_, by simp [rep]⟩
   have he : (ByteArray.mk s.toArray).extract l k = ⟨((s.take k).drop l).toArray⟩ := by
    apply ByteArray.ext
    simp [ByteArray.data_extract, List.extract_eq_take_drop]
    rw [List.drop_take]
   simp only [Instr.sliceAt, Instr.slice, Sem.run_bind, AK (Fd hst), Result.andThen_ok, Option.isSome_none, Bool.false_eq_true, if_false, hsz]
   simp [hbs, he]
  ·cases h
 ·split at h
  ·rename_i hel
   obtain ⟨i, hi'⟩ := Option.isSome_iff_exists.1 hel
   obtain ⟨e, he, hi''⟩ := Option.bind_eq_some_iff.1 hi'
   simp only [Option.map_eq_some_iff] at h
   obtain ⟨⟨l, k⟩, hb, rfl⟩ := h
   simp only [rep] at hx
   obtain ⟨a, rfl⟩ := hx
   have hbs := C7 (is := true) (w := E.w) hb hlo hlo' hhi hhi'
   have hle := F6 hb (Nat.le_refl _)
   obtain ⟨rfl⟩ : k = 0 := by omega
   obtain ⟨rfl⟩ : l = 0 := by omega
   refine ⟨.slice a 0 0, ?_, by simp [rep]⟩
   simp [Instr.sliceAt, Instr.slice, AK (BB he), hbs, A4 hi'']
  ·cases h
 ·rename_i t xs sp ex
  split at h
  ·rename_i hc
   obtain ⟨hel, hin⟩ := hc
   simp only [Option.map_eq_some_iff] at h
   obtain ⟨⟨l, k⟩, hb, rfl⟩ := h
   simp only [rep] at hx
   obtain ⟨a, cap, rfl, hcap, hex, hcl, vs, us, hvs, hus, hne⟩ := hx
   have hle := F6 hb (Nat.le_add_right _ _)
   have hbs := C7 (is := true) (w := E.w) (Gb hb hcap) hlo hlo' hhi hhi'
   have hln : (vs ++ us).length = xs.length + sp.length := by rw [List.length_append, AO hvs, AO hus]
   have hl1 : (((xs ++ sp).take k).drop l).length = k - l := by
    rw [List.length_drop, List.length_take, List.length_append]; omega
   have hl2 : ((xs ++ sp).drop k).length = xs.length + sp.length - k := by rw [List.length_drop, List.length_append]
   refine ⟨.slice (if cap = l then a else a.map (·.add (l * szT P t))) (k - l) (cap - l), ?_, ?_⟩
   ·simp only [Instr.sliceAt, Instr.slice, Sem.run_bind, AK (BB hel), Result.andThen_ok, hbs, D9 hin]
    simp
   ·have hall := Ap hvs hus
    cases ex with
    | true =>
     simp only [rep, if_true]
     refine ⟨_, cap - l, by rw [hl1], by rw [hl1, hl2]; omega, fun _ => by rw [hl1, hl2, hex rfl]; omega, ?_, ((vs ++ us).take k).drop l, (vs ++ us).drop k, BO (BV hall k) l, BO hall k, fun hn => ?_⟩
     ·intro x hx
      refine hcl x ?_
      rcases List.mem_append.1 hx with h | h
      ·exact List.mem_of_mem_take (List.mem_of_mem_drop h)
      ·exact List.mem_of_mem_drop h
     ·rw [hl1, hl2] at hn
      obtain ⟨b, off, c, fz, rfl, hI, hb', hca⟩ := hne zO
      refine ⟨b, off + l * szT P t, c, fz, ?_, hI, hb', ?_⟩
      ·rw [if_neg zO]; simp [DQ]
      ·have hj : ((vs ++ us).take k).drop l ++ (vs ++ us).drop k = (vs ++ us).drop l := by
        have h2 := List.take_append_drop (k - l) ((vs ++ us).drop l)
        rw [List.drop_drop, show l + (k - l) = k by omega] at h2
        rw [List.drop_take]; exact h2
       rw [hj]
       exact hca.drop l
    | false =>
     show rep P E (.sl t (((xs ++ sp).take k).drop l) [] false) _
     simp only [rep]
     refine ⟨_, cap - l, by rw [hl1], by rw [hl1]; simp only [List.length_nil]; omega, (fun h => by cases h), ?_, ((vs ++ us).take k).drop l, [], BO (BV hall k) l, by simp [repL], fun hn => ?_⟩
     ·intro x hx
      rw [List.append_nil] at hx
      exact hcl x (List.mem_of_mem_take (List.mem_of_mem_drop hx))
     ·rw [hl1] at hn
      simp only [List.length_nil, Nat.add_zero] at hn
      obtain ⟨b, off, c, fz, rfl, hI, hb', hca⟩ := hne zO
      refine ⟨b, off + l * szT P t, c, fz, ?_, hI, hb', ?_⟩
      ·rw [if_neg zO]; simp [DQ]
      ·rw [List.append_nil]
       exact (hca.take k).drop l
  ·cases h
 ·rename_i id n off len
  split at h
  ·rename_i hc
   obtain ⟨hlv, hn, hel, hin⟩ := hc
   rw [hh] at hlv hn
   simp only [Option.map_eq_some_iff] at h
   obtain ⟨⟨l, k⟩, hb, rfl⟩ := h
   simp only [rep] at hx
   obtain ⟨hid, hnl, ad, kk, rfl, hx⟩ := hx
   obtain ⟨h1, h2, h3⟩ := hx hlv hn
   have B := hE.blk id hlv
   have hcap := B.le
   have hle := F6 hb zO
   have hbs := C7 (is := true) (w := E.w) (Gb hb (show n - off ≤ kk by omega)) hlo hlo' hhi hhi'
   refine ⟨.slice (if kk = l then some ad else (some ad).map (·.add (l * szT P (E.h id).t))) (k - l) (kk - l), ?_, ?_⟩
   ·rw [hh] at hel hin
    simp only [Instr.sliceAt, Instr.slice, Sem.run_bind, AK (BB hel), Result.andThen_ok, hbs, D9 hin]
    simp
   ·simp only [rep]
    refine ⟨hid, hnl, (if kk = l then ad else ad.add (l * szT P (E.h id).t)), kk - l, ?_, fun _ _ => ⟨zO, zO, fun hk => ?_⟩⟩
    ·split <;> rfl
    ·rw [if_neg zO]
     cases h3 zO
     rw [DQ, Nat.add_mul, Nat.add_assoc]
  ·cases h
 ·cases h
theorem FN {P : Program} {w : World} {xt t : Nat} {a : Option Addr} {len cap : Nat} {k k' : IntKind} (he : elT P xt = some t) (hi : (P.info? t).isSome) : (Instr.sliceAt xt (.slice a len cap) none (some (.int k 0)) (some (.int k' 0))).run P w = .ok (.slice a 0 0) w := by
 simp [Instr.sliceAt, Instr.slice, Instr.sliceBounds, Instr.sliceBound, asIntOf, AK (BB he), D9 hi]
theorem JS {P : Program} {E : Env} {st : St} {xt : Nat} {ax z : AV} {lo hi : Option AV} {m : AV} {ulo uhi : Option Value} {um u : Value} (hE : Ok P E) (hh : st.h = E.h) (h : sliceA P st xt ax lo hi (some m) = some z) (hx : rep P E ax u)
  (hlo' : lo = none → ulo = none) (hhi : ∀ x, hi = some x → ∃ u, uhi = some u ∧ rep P E x u) (hm : rep P E m um) :
  ∃ r, (Instr.sliceAt xt u ulo uhi (some um)).run P E.w = .ok r E.w ∧ rep P E z r := by
 unfold sliceA at h
 simp only at h
 split at h
 ·rename_i hc
  obtain ⟨c1, c2, c3⟩ := hc
  have hz : ∀ (x : AV) (v : Value), zeroI x = true → rep P E x v → ∃ k, v = .int k 0 := by
   intro x v hz hv
   cases x <;> simp [zeroI] at hz
   subst hz
   simp only [rep] at hv
   exact ⟨_, hv⟩
  obtain ⟨k', rfl⟩ := hz m um c3 hm
  cases lo with
  | some _ => simp at c1
  | none =>
  rw [hlo' rfl]
  cases hi with
  | none => simp at c2
  | some y =>
  obtain ⟨v, rfl, hv⟩ := hhi y rfl
  simp only [Option.map_some, Option.some.injEq] at c2
  obtain ⟨k, rfl⟩ := hz y v c2 hv
  split at h
  ·split at h
   ·rename_i hel
    obtain ⟨i, hi'⟩ := Option.isSome_iff_exists.1 hel
    obtain ⟨e, he, hi''⟩ := Option.bind_eq_some_iff.1 hi'
    cases h
    simp only [rep] at hx
    obtain ⟨a, rfl⟩ := hx
    exact ⟨_, FN he (by rw [hi'']; rfl), by simp [rep]⟩
   ·cases h
  ·split at h
   ·rename_i hc
    cases h
    simp only [rep] at hx
    obtain ⟨a, cap, rfl, _⟩ := hx
    exact ⟨_, FN hc.1 hc.2, by simp [rep, repL]⟩
   ·cases h
  ·split at h
   ·rename_i hc
    cases h
    simp only [rep] at hx
    obtain ⟨_, _, ad, kk, rfl, _⟩ := hx
    exact ⟨_, FN hc.2.2.1 hc.2.2.2, by simp [rep, repL]⟩
   ·cases h
  ·cases h
 ·cases h
def pushW (w : World) (o : Obj) : World := { w with heap := w.heap.push o }
theorem A6 {w : World} {o : Obj} {b : Nat} (h : b < w.heap.size) : (pushW w o).heap[b]? = w.heap[b]? := by
 simp only [pushW]; rw [Array.getElem?_push]; split <;> simp_all
theorem Es {w : World} {o : Obj} : (pushW w o).heap[w.heap.size]? = some o := by
 show (w.heap.push o)[w.heap.size]? = some o
 simp
theorem Lt {w : World} {o : Obj} : (pushW w o).heap.size = w.heap.size + 1 := by simp [pushW]
theorem BC {w : World} {b : Nat} {o : Obj} (h : w.heap[b]? = some o) : b < w.heap.size := by
 rcases Nat.lt_or_ge b w.heap.size with h' | h'
 ·exact h'
 ·rw [Array.getElem?_eq_none h'] at h; cases h
theorem PU {α : Type} (f : Nat → α) {i j : Nat} (v : α) (h : j ≠ i) : upd f i v j = f j := by simp [upd, h]
theorem BlkOk.move {P : Program} {E E' : Env} {id : Nat} (B : BlkOk P E id) (hLe : E.Le E') (hh : E'.h id = E.h id) (hm : E'.m id = E.m id) (hw : E'.w.heap[(E.m id).b]? = E.w.heap[(E.m id).b]?)
  (hI : ¬ E'.I (E.m id).b) : BlkOk P E' id := by
 obtain ⟨c, vs, h1, h2, h3, h4⟩ := B.at_
 refine ⟨Nat.lt_of_lt_of_le B.lt hLe.nx, ?_, ?_, ?_, ?_, ?_, ⟨c, vs, ?_, ?_, ?_, ?_⟩⟩
 ·rw [hh, hm]; exact B.gr
 ·rw [hh, hm]; exact B.ex
 ·rw [hh, hm]; exact B.le
 ·rw [hh]; exact B.cl
 ·rw [hm]; exact hI
 ·rw [hm, hw, hh]; exact h1
 ·rw [hh]; exact Ax hLe _ _ h2
 ·rw [hm, hh]; exact h3
 ·rw [hm, hh]; exact h4
theorem Dq {P : Program} {E : Env} (hE : Ok P E) (c : Array Value) (e : Nat) (xs : List AV) (vs : List Value) (cap : Nat) (ex gr : Bool) (hr : repL P E xs vs) (hc : CellsAt c 0 (szT P e) vs)
  (hcl : ∀ x ∈ xs, x.el P e = true) (hle : xs.length ≤ cap) (hex : ex = true → cap = xs.length) (hsz : cap * szT P e ≤ c.size) :
  let E' : Env := ⟨pushW E.w (.cells c e (0, 0)), E.I, upd E.m E.nx ⟨E.w.heap.size, 0, cap⟩, upd E.h E.nx ⟨e, xs, ex, gr, true⟩, E.nx + 1⟩
  E.Le E' ∧ Ok P E' ∧ Goes P E E' := by
 intro E'
 have hLe : E.Le E' := by
  refine ⟨Nat.le_succ _, fun b hb => ⟨hb, A6 (hE.imm b hb)⟩, fun id hid => ?_, fun id hid n _ h1 h2 => ?_⟩
  ·simp [E', upd, Nat.ne_of_lt hid]
  ·simp only [E', upd, Nat.ne_of_lt hid, if_false] at h1 h2 ⊢; exact ⟨h1, h2, by trivial, by trivial⟩
 have hlt : ∀ id, (E.h id).lv = true → id < E.nx := fun id h => (hE.blk id h).lt
 have hmb : ∀ id, (E.h id).lv = true → (E.m id).b < E.w.heap.size := fun id h => by
  obtain ⟨c, vs, h1, _⟩ := (hE.blk id h).at_; exact BC h1
 refine ⟨hLe, ⟨fun id hlv => ?_, fun i j hi hj hij => ?_, fun b hb => Nat.lt_of_lt_of_le (hE.imm b hb) (by simp [E', pushW]), hE.tab.le hLe⟩, ?_⟩
 ·by_cases hid : id = E.nx
  ·subst hid
   refine ⟨by simp [E'], by simp [E', upd], by simpa [E', upd] using hex, by simpa [E', upd] using hle, by simpa [E', upd] using hcl, ?_, ⟨c, vs, ?_, ?_, ?_, ?_⟩⟩
   ·simp only [E', upd, if_true]; exact fun h => Nat.lt_irrefl _ (hE.imm _ h)
   ·simp only [E', upd, if_true]; exact Es
   ·simp only [E', upd, if_true]; exact Ax hLe _ _ hr
   ·simpa [E', upd] using hc
   ·simpa [E', upd] using hsz
  ·simp only [E', upd, hid, if_false] at hlv
   refine (hE.blk id hlv).move hLe (by simp [E', upd, hid]) (by simp [E', upd, hid]) (A6 (hmb id hlv)) (hE.blk id hlv).dark
 ·by_cases h1 : i = E.nx <;> by_cases h2 : j = E.nx
  ·rw [h1, h2]
  ·simp only [E', upd, h1, h2, if_true, if_false] at hi hj hij
   exact absurd (hmb j hj) zO
  ·simp only [E', upd, h1, h2, if_true, if_false] at hi hj hij
   exact absurd (hmb i hi) zO
  ·simp only [E', upd, h1, h2, if_false] at hi hj hij
   exact hE.inj i j hi hj hij
 ·refine ⟨rfl, rfl, rfl, by simp [E', pushW], fun b hb _ => A6 hb, fun id hlv c' hc' => ⟨c', ?_, rfl, fun _ _ => rfl⟩, fun id hlv => ?_, fun b hb => .inl hb, Nat.le_succ _, fun id hid => by simp [E', upd, Nat.ne_of_lt hid]⟩
  ·exact (A6 (hmb id hlv)).trans hc'
  ·by_cases hid : id = E.nx
   ·exact .inr ⟨by simp [E', upd, hid], .inl zO⟩
   ·simp only [E', upd, hid, if_false, Env.lim] at hlv ⊢; exact .inl ⟨hlv, by trivial, by trivial, by trivial⟩
theorem Rz {P : Program} {E : Env} (hE : Ok P E) (o : Obj) :
  let E' : Env := ⟨pushW E.w o, fun b => E.I b ∨ b = E.w.heap.size, E.m, E.h, E.nx⟩
  E.Le E' ∧ Ok P E' ∧ Goes P E E' := by
 intro E'
 have hLe : E.Le E' := ⟨Nat.le_refl _, fun b hb => ⟨.inl hb, A6 (hE.imm b hb)⟩, fun _ _ => Nat.le_refl _, fun _ _ _ _ h1 h2 => ⟨h1, h2, rfl, rfl⟩⟩
 have hmb : ∀ id, (E.h id).lv = true → (E.m id).b < E.w.heap.size := fun id h => by
  obtain ⟨c, vs, h1, _⟩ := (hE.blk id h).at_; exact BC h1
 refine ⟨hLe, ⟨fun id hlv => ?_, fun i j hi hj hij => hE.inj i j hi hj hij, fun b hb => ?_, hE.tab.le hLe⟩, ?_⟩
 ·refine (hE.blk id hlv).move hLe rfl rfl (A6 (hmb id hlv)) ?_
  rintro (h | h)
  ·exact (hE.blk id hlv).dark h
  ·exact absurd (hmb id hlv) zO
 ·show b < (pushW E.w o).heap.size
  rw [Lt]
  rcases hb with h | h
  ·exact Nat.lt_succ_of_lt (hE.imm b h)
  ·omega
 ·refine ⟨rfl, rfl, rfl, by simp [E', pushW], fun b hb _ => A6 hb, fun id hlv c' hc' => ⟨c', (A6 (hmb id hlv)).trans hc', rfl, fun _ _ => rfl⟩, fun id hlv => .inl ⟨hlv, rfl, rfl, rfl⟩, fun b hb => ?_, Nat.le_refl _, fun _ _ => rfl⟩
  rcases hb with h | h
  ·exact .inl h
  ·exact .inr zO
theorem CellsAt.mk_flat (sz : Nat) : ∀ (vs : List Value), (∀ v ∈ vs, v.cells.size = sz) → CellsAt (vs.flatMap fun v => v.cells.toList).toArray 0 sz vs
 | [], _ => by intro i v h; simp at h
 | x :: xs, h => by
  intro i v hi
  have hx := h x zS
  cases i with
  | zero =>
   simp only [List.getElem?_cons_zero, Option.some.injEq] at hi; subst hi
   refine ⟨hx, fun j u hj => ?_⟩
   simp only [List.flatMap_cons, List.getElem?_toArray, Nat.zero_mul, Nat.zero_add]
   rw [List.getElem?_append_left (by
    have : j < x.cells.size := by
     rcases Nat.lt_or_ge j x.cells.size with h | h
     ·exact h
     ·rw [Array.getElem?_eq_none h] at hj; cases hj
    simpa using this)]
   simpa using hj
  | succ i =>
   simp only [List.getElem?_cons_succ] at hi
   obtain ⟨h1, h2⟩ := CellsAt.mk_flat sz xs (fun v hv => h v (by simp [hv])) i v hi
   refine ⟨h1, fun j u hj => ?_⟩
   have := h2 j u hj
   simp only [List.flatMap_cons, List.getElem?_toArray, Nat.zero_add] at this ⊢
   rw [List.getElem?_append_right (by simp [hx]; rw [Nat.add_mul]; omega)]
   rw [← this]; congr 1
   simp [hx]; rw [Nat.add_mul]; omega
theorem CellsAt.mk_replicate (sz n : Nat) (v : Value) (h : v.cells.size = sz) : CellsAt ((Array.range (n * sz)).map (v.cells[· % v.cells.size]!)) 0 sz (List.replicate n v) := by
 intro i u hi
 rw [List.getElem?_replicate] at hi
 split at hi
 ·rename_i hin; cases hi
  refine ⟨h, fun j x hj => ?_⟩
  have hj' : j < sz := by
   rcases Nat.lt_or_ge j v.cells.size with h' | h'
   ·omega
   ·rw [Array.getElem?_eq_none h'] at hj; cases hj
  have hlt : i * sz + j < n * sz := by
   have : (i + 1) * sz ≤ n * sz := Nat.mul_le_mul_right _ hin
   rw [Nat.add_mul] at this; omega
  have hmod : (i * sz + j) % sz = j := by
   rw [Nat.add_comm, Nat.add_mul_mod_self_right, Nat.mod_eq_of_lt hj']
  rw [Nat.zero_add, Array.getElem?_map, Array.getElem?_range, if_pos hlt]
  simp only [Option.map_some, h, hmod]
  rw [getElem!_pos v.cells j zO]
  rw [Array.getElem?_eq_getElem zO] at hj
  exact hj
 ·cases hi
theorem DR {P : Program} {w : World} {t : TypeId} {z : Value} (h : (P.info? t).bind (·.zero) = some z) : (zeroValue t).run P w = .ok z w := by
 obtain ⟨i, hi, hz⟩ := Option.bind_eq_some_iff.1 h
 simp [zeroValue, CS hi, hz]
theorem DF {P : Program} {t : Nat} {z : AV} (h : zeroA P t = some z) : ∃ v, (P.info? t).bind (·.zero) = some v ∧ z = ofVal v := by
 simp only [zeroA, Option.map_eq_some_iff] at h
 obtain ⟨v, hv, rfl⟩ := h
 exact ⟨v, hv, rfl⟩
theorem Bf {P : Program} {t : Nat} {v : Value} (h : (P.info? t).bind (·.zero) = some v) : (P.info? t).isSome := by
 cases hi : P.info? t with
 | none => rw [hi] at h; simp at h
 | some i => rfl
theorem CF {P : Program} {E : Env} {t : Nat} {x : AV} {v : Value} (h : rep P E x v) (he : x.el P t = true) : v.cells.size = szT P t := by
 rw [← CI he]
 refine (PS h ?_).symm
 rintro rfl
 have := D8 he .undef (by simp [AV.cells])
 simp [AV.one] at this
theorem Ib {x : AV} (h : x.one = true) : x.cells = [x] := by cases x <;> simp_all [AV.cells, AV.one]
def Does (P : Program) (E : Env) (s : Sem Value) (z : AV) (h' : Nat → Blk) (nx' : Nat) : Prop :=
 ∃ E' r, E'.h = h' ∧ E'.nx = nx' ∧ E.Le E' ∧ Ok P E' ∧ Goes P E E' ∧ s.run P E.w = .ok r E'.w ∧ rep P E' z r
theorem Does.same {P : Program} {E : Env} {s : Sem Value} {z : AV} (hE : Ok P E) (h : ∃ r, s.run P E.w = .ok r E.w ∧ rep P E z r) : Does P E s z E.h E.nx := by
 obtain ⟨r, h1, h2⟩ := h
 exact ⟨E, r, rfl, rfl, .refl E, hE, .refl P E, h1, h2⟩
theorem Bg {P : Program} {w : World} {e : TypeId} {c : Array Value} : (newRow e c).run P w = .ok ⟨w.heap.size, 0, none⟩ (pushW w (.cells c e (0, 0))) := by
 rfl
theorem CellsAt.one (v : Value) (sz : Nat) (h : v.cells.size = sz) : CellsAt v.cells 0 sz [v] := by
 intro i u hi
 cases i with
 | succ i => simp at hi
 | zero => simp only [List.getElem?_cons_zero, Option.some.injEq] at hi; subst hi; exact ⟨h, fun j x hj => by simpa using hj⟩
theorem F7 {x : Int} (h1 : -9223372036854775808 ≤ x) (h2 : x < 9223372036854775808) : IntKind.i64.wrap x = x := by
 simp only [IntKind.wrap, IntKind.bits, IntKind.signed, Bool.true_and, Int.reducePow, Nat.reduceSub]
 split <;> rename_i h <;> simp only [ge_iff_le, decide_eq_true_eq] at h <;> omega
theorem Ic {P : Program} {E : Env} {e : Nat} {x : AV} {v : Value} (hE : Ok P E) (he : x.el P e = true) (hx : rep P E x v) :
  Does P E (do pure (.pointer (some (← newVar e v)))) (.ptr E.nx 1 0 0) (upd E.h E.nx ⟨e, [x], true, false, true⟩) (E.nx + 1) := by
 have hsz := CF hx he
 obtain ⟨h1, h2, h3⟩ := Dq hE v.cells e [x] [v] 1 true false (by simp [repL, hx]) (CellsAt.one v _ hsz) (by simpa using he) (Nat.le_refl _) (fun _ => rfl) (by simp [hsz])
 refine ⟨_, .pointer (some ⟨E.w.heap.size, 0, none⟩), rfl, rfl, h1, h2, h3, ?_, ?_⟩
 ·simp [newVar, Bg]
 ·simp only [rep]
  exact ⟨zS, by simp [upd], _, rfl, fun _ _ => by simp [upd]⟩
theorem Lu {P : Program} {E : Env} {t e : Nat} {z : AV} {l c : Int} {k k' : IntKind} (hE : Ok P E) (ht : elT P t = some e) (hz : zeroA P e = some z) (he : z.el P e = true) (h0 : 0 ≤ l) (hlc : l ≤ c) (hb : c * (byT P e : Int) ≤ reach) (hc : c ≤ reach) :
  Does P E (Instr.makeSlice t (.int k l) (.int k' c)) (.ref E.nx c.toNat 0 l.toNat) (upd E.h E.nx ⟨e, List.replicate c.toNat z, true, true, true⟩) (E.nx + 1) := by
 obtain ⟨v, hv, rfl⟩ := DF hz
 have hr := CL (P := P) (E := E) v
 have hsz := CF hr he
 have hin := Bf hv
 obtain ⟨i, hi⟩ := Option.isSome_iff_exists.1 hin
 have hby : byT P e = i.bytes := by simp [byT, hi]
 obtain ⟨h1, h2, h3⟩ := Dq hE ((Array.range (c.toNat * szT P e)).map (v.cells[· % v.cells.size]!)) e (List.replicate c.toNat (ofVal v)) (List.replicate c.toNat v) c.toNat true true
  (ER _ hr) (CellsAt.mk_replicate _ _ v hsz) (fun x hx => by rw [List.eq_of_mem_replicate hx]; exact he) zS zS zS
 refine ⟨_, .slice (some ⟨E.w.heap.size, 0, none⟩) l.toNat c.toNat, rfl, rfl, h1, h2, h3, ?_, ?_⟩
 ·have hwl : IntKind.i64.wrap l = l := F7 zO (by unfold reach at hc; omega)
  have hwc : IntKind.i64.wrap c = c := F7 zO (by unfold reach at hc; omega)
  have hbig : ¬ ((i.bytes : Int) * c > 2 ^ 48) := by
   unfold reach at hb; rw [hby, Int.mul_comm] at hb; omega
  have hroom : ∀ n, (askRoom n).run P E.w = .ok () E.w := fun n => by unfold askRoom; split <;> rfl
  simp only [Instr.makeSlice, asInt, asIntOf, Sem.run_bind, AK (BB ht), Result.andThen_ok, Sem.run_pure, CS hi, hwl, hwc]
  have hcond : ((decide (c < 0) || decide ((i.bytes : Int) * c > 2 ^ 48)) || decide (l < 0) || decide (l > c)) = false := by
   simp only [Bool.or_eq_false_iff, decide_eq_false_iff_not]
   refine ⟨⟨⟨zO, hbig⟩, zO⟩, zO⟩
  simp only [hcond]
  simp only [Bool.false_eq_true, if_false, Sem.run_bind, hroom, Result.andThen_ok, A4 hi]
  by_cases hn : c.toNat * szT P e = 0
  ·simp [hn, Bg]
   simp [Array.range]
  ·simp [hn, DR hv, Bg]
 ·simp only [rep]
  refine ⟨zS, by simp [upd], _, _, rfl, fun _ _ => ⟨zO, by simp [upd], fun _ => by simp [upd]⟩⟩
theorem FO {P : Program} {E : Env} (hE : Ok P E) (id : Nat) (hlv : (E.h id).lv = true) (c c' : Array Value) (xs : List AV) (vs : List Value) (ex : Bool)
  (hc : E.w.heap[(E.m id).b]? = some (.cells c (E.h id).t (0, 0))) (hsz : c'.size = c.size)
  (hout : ∀ j, (j < (E.m id).base ∨ (E.m id).base + E.lim id * szT P (E.h id).t ≤ j) → c'[j]? = c[j]?) (hgr : (E.h id).gr = true ∨ xs.length = (E.h id).xs.length)
  (hr : repL P E xs vs) (hca : CellsAt c' (E.m id).base (szT P (E.h id).t) vs) (hcl : ∀ x ∈ xs, x.el P (E.h id).t = true)
  (hlen : (E.h id).xs.length ≤ xs.length) (hle : xs.length ≤ (E.m id).cap) (hex : ex = true → (E.m id).cap = xs.length) :
  let E' : Env := ⟨E.w.setRow (E.m id).b c', E.I, E.m, upd E.h id { E.h id with xs := xs, ex := ex }, E.nx⟩
  E.Le E' ∧ Ok P E' ∧ Goes P E E' := by
 intro E'
 have B := hE.blk id hlv
 have hsame : (E.w.setRow (E.m id).b c').heap[(E.m id).b]? = some (.cells c' (E.h id).t (0, 0)) := setRow_heap E.w _ c c' _ _ hc
 have hother : ∀ b, b ≠ (E.m id).b → (E.w.setRow (E.m id).b c').heap[b]? = E.w.heap[b]? := fun b hb => by
  simp only [World.setRow]; rw [Array.getElem?_modify, if_neg (fun h => hb h.symm)]
 have hsize : (E.w.setRow (E.m id).b c').heap.size = E.w.heap.size := by simp [World.setRow]
 have hLe : E.Le E' := by
  refine ⟨Nat.le_refl _, fun b hb => ⟨hb, hother b (fun h => B.dark (h ▸ hb))⟩, fun i hi => ?_, fun i hi n hn h1 h2 => ?_⟩
  ·by_cases h : i = id
   ·subst h; simpa [E', upd] using hlen
   ·simp [E', upd, h]
  ·by_cases h : i = id
   ·subst h
    simp only [E', upd, if_true] at h1 h2 ⊢
    exact ⟨hlv, zO, by trivial, by trivial⟩
   ·simp only [E', upd, h, if_false] at h1 h2 ⊢; exact ⟨h1, h2, by trivial, by trivial⟩
 refine ⟨hLe, ⟨fun i hi => ?_, fun i j hi hj hij => ?_, fun b hb => by rw [show E'.w.heap.size = E.w.heap.size from hsize]; exact hE.imm b hb, hE.tab.le hLe⟩, ?_⟩
 ·by_cases h : i = id
  ·subst h
   refine ⟨B.lt, ?_, ?_, ?_, ?_, B.dark, ⟨c', vs, ?_, ?_, ?_, ?_⟩⟩
   ·simpa [E', upd] using B.gr
   ·simpa [E', upd] using hex
   ·simpa [E', upd] using hle
   ·simpa [E', upd] using hcl
   ·simpa [E', upd] using hsame
   ·simpa [E', upd] using Ax hLe _ _ hr
   ·simpa [E', upd] using hca
   ·obtain ⟨c0, _, h1, _, _, h4⟩ := B.at_
    rw [hc] at h1; cases h1
    simpa [E', upd, hsz] using h4
  ·have hi' : (E.h i).lv = true := by simpa [E', upd, h] using hi
   exact (hE.blk i hi').move hLe (by simp [E', upd, h]) rfl (hother _ (fun hb => h (hE.inj i id hi' hlv hb))) (hE.blk i hi').dark
 ·have f : ∀ k, (E'.h k).lv = true → (E.h k).lv = true := fun k hk => by
   by_cases h : k = id
   ·subst h; exact hlv
   ·simpa [E', upd, h] using hk
  exact hE.inj i j (f i hi) (f j hj) hij
 ·refine ⟨rfl, rfl, rfl, Nat.le_of_eq hsize.symm, fun b hb hne => hother b (fun h => hne id hlv h.symm), fun i hi c0 h0 => ?_, fun i hi => ?_, fun b hb => .inl hb, Nat.le_refl _, fun i _ => ?_⟩
  ·by_cases h : i = id
   ·subst h
    rw [hc] at h0; cases h0
    exact ⟨c', hsame, hsz, hout⟩
   ·exact ⟨c0, (hother _ (fun hb => h (hE.inj i id hi hlv hb))).trans h0, rfl, fun _ _ => rfl⟩
  ·by_cases h : i = id
   ·subst h
    refine .inl ⟨hlv, rfl, by simp [E', upd], ?_⟩
    simp only [E', upd, Env.lim, if_true]
    rcases hgr with hg | hg
    ·rw [hg]; rfl
    ·rw [hg]
   ·simp only [E', upd, h, if_false, Env.lim] at hi ⊢; exact .inl ⟨hi, by trivial, by trivial, by trivial⟩
  ·by_cases h : i = id
   ·subst h; simp [E', upd]
   ·simp [E', upd, h]
theorem Goes.trans {P : Program} {A B C : Env} (hA : Ok P A) (h : Goes P A B) (k : Goes P B C) : Goes P A C := by
 have live : ∀ b, b < A.w.heap.size → (∀ id, (A.h id).lv = true → (A.m id).b ≠ b) → ∀ id, (B.h id).lv = true → (B.m id).b ≠ b := by
  intro b hb hne id hid e
  rcases h.locs id hid with ⟨h1, h2, _, _⟩ | ⟨h1, _⟩
  ·exact hne id h1 (by rw [← h2]; exact e)
  ·omega
 refine ⟨k.os.trans h.os, k.tape.trans h.tape, k.output.trans h.output, Nat.le_trans h.size k.size, fun b hb hne => ?_, fun id hid c hc => ?_, fun id hid => ?_, fun b hb => ?_, Nat.le_trans h.nx k.nx, fun id hid => (k.grs id (Nat.lt_of_lt_of_le hid h.nx)).trans (h.grs id hid)⟩
 ·exact (k.keep b (Nat.lt_of_lt_of_le hb h.size) (live b hb hne)).trans (h.keep b hb hne)
 ·obtain ⟨c1, h1, h2, h3⟩ := h.part id hid c hc
  have hlt := BC hc
  by_cases hl : ∃ j, (B.h j).lv = true ∧ (B.m j).b = (A.m id).b
  ·obtain ⟨j, hj, hb⟩ := hl
   rcases h.locs j hj with ⟨g1, g2, g3, g4⟩ | ⟨g1, _⟩
   ·have hji : j = id := hA.inj j id g1 hid (by rw [← g2]; exact hb)
    subst hji
    obtain ⟨c2, k1, k2, k3⟩ := k.part j hj c1 (by rw [g2, g3]; exact h1)
    rw [g2, g3] at k1
    rw [g2, g3, g4] at k3
    exact ⟨c2, k1, k2.trans h2, fun i hi => (k3 i hi).trans (h3 i hi)⟩
   ·omega
  ·exact ⟨c1, (k.keep _ (Nat.lt_of_lt_of_le hlt h.size) (fun j hj e => hl ⟨j, hj, e⟩)).trans h1, h2, h3⟩
 ·rcases k.locs id hid with ⟨h1, h2, h3, h4⟩ | ⟨h1, h2⟩
  ·rcases h.locs id h1 with ⟨g1, g2, g3, g4⟩ | ⟨g1, g2⟩
   ·exact .inl ⟨g1, h2.trans g2, h3.trans g3, h4.trans g4⟩
   ·exact .inr ⟨by rw [h2]; exact g1, g2⟩
  ·refine .inr ⟨Nat.le_trans h.size h1, ?_⟩
   rcases Nat.lt_or_ge id A.nx with hlt | hge
   ·rcases h2 with h2 | h2
    ·exact .inl (Nat.le_trans h.nx h2)
    ·exact .inr (by rw [← h.grs id hlt]; exact h2)
   ·exact .inl hge
 ·rcases k.dark b hb with h1 | h1 | ⟨id, h1, h2, h3⟩
  ·exact h.dark b h1
  ·exact .inr (.inl (Nat.le_trans h.size h1))
  ·rcases h.locs id h1 with ⟨g1, g2, g3, g4⟩ | ⟨g1, g2⟩
   ·exact .inr (.inr ⟨id, g1, by rw [← h.grs id (hA.blk id g1).lt]; exact h2, by rw [← g2]; exact h3⟩)
   ·exact .inr (.inl (by rw [← h3]; exact g1))
def drewW (w : World) : World := { w with drawn := w.drawn + 1 }
theorem HI {P : Program} {E : Env} (hE : Ok P E) : let E' : Env := ⟨drewW E.w, E.I, E.m, E.h, E.nx⟩; E.Le E' ∧ Ok P E' ∧ Goes P E E' := by
 intro E'
 have hLe : E.Le E' := ⟨Nat.le_refl _, fun b hb => ⟨hb, rfl⟩, fun _ _ => Nat.le_refl _, fun _ _ _ _ h1 h2 => ⟨h1, h2, rfl, rfl⟩⟩
 exact ⟨hLe, ⟨fun id hlv => (hE.blk id hlv).move hLe rfl rfl rfl (hE.blk id hlv).dark, hE.inj, hE.imm, hE.tab.le hLe⟩,
  ⟨rfl, rfl, rfl, Nat.le_refl _, fun _ _ _ => rfl, fun _ _ c h => ⟨c, h, rfl, fun _ _ => rfl⟩, fun _ h => .inl ⟨h, rfl, rfl, rfl⟩, fun _ h => .inl h, Nat.le_refl _, fun _ _ => rfl⟩⟩
def flat (vs : List Value) : List Value := vs.flatMap fun v => v.cells.toList
theorem BF {sz : Nat} : ∀ {vs : List Value}, (∀ v ∈ vs, v.cells.size = sz) → (flat vs).length = vs.length * sz
 | [], _ => by simp [flat]
 | v :: vs, h => by
  have := BF (vs := vs) (fun x hx => h x (by simp [hx]))
  simp only [flat, List.flatMap_cons, List.length_append, List.length_cons] at this ⊢
  rw [this, Nat.add_mul]; simp [h v zS]; omega
theorem CM (a b : List Value) : flat (a ++ b) = flat a ++ flat b := by simp [flat]
theorem CellsAt.sizes {c : Array Value} {off sz : Nat} {vs : List Value} (h : CellsAt c off sz vs) : ∀ v ∈ vs, v.cells.size = sz := by
 intro v hv
 obtain ⟨i, hi⟩ := List.getElem?_of_mem hv
 exact (h i v hi).1
theorem CellsAt.flat_get {c : Array Value} {sz : Nat} : ∀ {off : Nat} {vs : List Value}, CellsAt c off sz vs → ∀ (p : Nat) (u : Value), (flat vs)[p]? = some u → c[off + p]? = some u
 | off, [], _, p, u, hp => by simp [flat] at hp
 | off, v :: vs, h, p, u, hp => by
  have hv := h 0 v rfl
  have htl : CellsAt c (off + 1 * sz) sz vs := by simpa using h.drop 1
  simp only [flat, List.flatMap_cons] at hp
  rcases Nat.lt_or_ge p sz with hlt | hge
  ·rw [List.getElem?_append_left (by simpa [hv.1] using hlt)] at hp
   have := hv.2 p u (by simpa using hp)
   simpa using this
  ·rw [List.getElem?_append_right (by simpa [hv.1] using hge)] at hp
   have := CellsAt.flat_get htl (p - sz) u (by simpa [flat, hv.1] using hp)
   rw [← this]; congr 1; omega
theorem CellsAt.of_flat {c : Array Value} {sz : Nat} : ∀ {off : Nat} {vs : List Value}, (∀ v ∈ vs, v.cells.size = sz) → (∀ (p : Nat) (u : Value), (flat vs)[p]? = some u → c[off + p]? = some u) → CellsAt c off sz vs
 | off, [], _, _ => by intro i v h; simp at h
 | off, v :: vs, hs, h => by
  have hv := hs v zS
  intro i x hi
  cases i with
  | zero =>
   simp only [List.getElem?_cons_zero, Option.some.injEq] at hi; subst hi
   refine ⟨hv, fun j u hj => ?_⟩
   have hlt : j < v.cells.size := by
    rcases Nat.lt_or_ge j v.cells.size with h' | h'
    ·exact h'
    ·rw [Array.getElem?_eq_none h'] at hj; cases hj
   have := h j u (by simp only [flat, List.flatMap_cons]; rw [List.getElem?_append_left (by simpa using hlt)]; simpa using hj)
   simpa using this
  | succ i =>
   simp only [List.getElem?_cons_succ] at hi
   have := CellsAt.of_flat (c := c) (sz := sz) (off := off + sz) (vs := vs) (fun y hy => hs y (by simp [hy])) (fun p u hp => by
    have := h (sz + p) u (by
     simp only [flat, List.flatMap_cons]
     rw [List.getElem?_append_right (by simp [hv])]
     simpa [flat, hv] using hp)
    rw [← this]; congr 1; omega) i x hi
   refine ⟨this.1, fun j u hj => ?_⟩
   rw [← this.2 j u hj]; congr 1
   rw [Nat.add_mul]; omega
theorem BZ {α : Type} {l ns : List α} {o : Nat} (h : o + ns.length ≤ l.length) (p : Nat) :
  (l.take o ++ ns ++ l.drop (o + ns.length))[p]? = if p < o then l[p]? else if p < o + ns.length then ns[p - o]? else l[p]? := by
 have h1 : (l.take o).length = o := by rw [List.length_take]; omega
 by_cases hp : p < o
 ·rw [if_pos hp, List.append_assoc, List.getElem?_append_left zO, List.getElem?_take, if_pos hp]
 ·rw [if_neg hp]
  by_cases hq : p < o + ns.length
  ·rw [if_pos hq, List.append_assoc, List.getElem?_append_right zO, h1, List.getElem?_append_left zO]
  ·rw [if_neg hq, List.getElem?_append_right (by rw [List.length_append]; omega), List.length_append, h1, List.getElem?_drop]
   congr 1; omega
theorem A3 {α : Type} {l ns : List α} {o : Nat} (h : o + ns.length ≤ l.length) : (l.take o ++ ns ++ l.drop (o + ns.length)).length = l.length := by
 simp only [List.length_append, List.length_take, List.length_drop]; omega
theorem ES : ∀ (vs cs : List AV) (j : Nat), j + vs.length ≤ cs.length → setCells cs j vs = cs.take j ++ vs ++ cs.drop (j + vs.length)
 | [], cs, j, _ => by simp [setCells]
 | v :: vs, cs, j, h => by
  simp only [List.length_cons] at h
  rw [setCells, ES vs _ _ zW]
  apply List.ext_getElem?
  intro p
  rw [BZ zW, BZ zW]
  simp only [List.length_cons]
  by_cases h1 : p < j
  ·rw [if_pos zO, if_pos h1, List.getElem?_set, if_neg zO]
  ·rw [if_neg h1]
   by_cases h2 : p = j
   ·subst h2
    rw [if_pos zO, if_pos zO, List.getElem?_set, if_pos rfl, if_pos zO]
    simp
   ·rw [if_neg zO]
    by_cases h3 : p < j + 1 + vs.length
    ·rw [if_pos h3, if_pos zO]
     rw [show p - j = (p - (j + 1)) + 1 by omega, List.getElem?_cons_succ]
    ·rw [if_neg h3, if_neg zO, List.getElem?_set, if_neg zO]
theorem PV {P : Program} {t : Nat} {cs : List AV} (h : cs.length = szT P t) (h1 : ∀ c ∈ cs, c.one = true) : (AV.agg cs).el P t = true := by
 unfold AV.el; rw [Bool.and_eq_true]; exact ⟨decide_eq_true h, List.all_eq_true.2 h1⟩
theorem N9 {P : Program} {E : Env} {t j e : Nat} {x v x' : AV} {y u : Value} (h : stA P t x j v = some x') (hx : rep P E x y) (hxe : x.el P e = true) (hv : rep P E v u) :
  u.cells.size = szT P t ∧ (∀ z ∈ u.cells.toList, z.oneCell' = true) ∧ j + szT P t ≤ szT P e ∧ x'.el P e = true ∧
  ∃ y', rep P E x' y' ∧ y'.cells.toList = y.cells.toList.take j ++ u.cells.toList ++ y.cells.toList.drop (j + szT P t) := by
 unfold stA at h
 split at h
 ·rename_i hc
  obtain ⟨hve, hle⟩ := hc
  have hus := CF hv hve
  have hys := CF hx hxe
  have hul := Cf hv (by rw [CI hve, hus])
  have hu1 := Fb hul (D8 hve)
  have hxl := CI hxe
  refine ⟨hus, hu1, by rw [← hxl]; exact hle, ?_⟩
  split at h
  ·rename_i cs
   cases h
   have hyl := Cf hx (by rw [hxl, hys])
   simp only [AV.cells] at hyl hle hxl
   have hvl : v.cells.length = szT P t := CI hve
   have hset : setCells cs j v.cells = cs.take j ++ v.cells ++ cs.drop (j + szT P t) := by
    rw [ES _ _ _ zO, hvl]
   refine ⟨?_, .agg (y.cells.toList.take j ++ u.cells.toList ++ y.cells.toList.drop (j + szT P t)).toArray, ?_, by simp [Value.cells]⟩
   ·have h1 := D8 hxe
    have h2 := D8 hve
    simp only [AV.cells] at h1
    rw [hset]
    refine PV (by simp only [List.length_append, List.length_take, List.length_drop]; omega) fun c hc => ?_
    simp only [List.mem_append] at hc
    rcases hc with (hc | hc) | hc
    ·exact h1 c (List.mem_of_mem_take hc)
    ·exact h2 c hc
    ·exact h1 c (List.mem_of_mem_drop hc)
   ·simp only [rep]
    refine ⟨_, rfl, ?_⟩
    rw [hset]
    exact Ap (Ap (BV hyl j) hul) (BO hyl _)
  ·rename_i hna
   have h1 : x.cells = [x] := by cases x <;> simp_all [AV.cells]
   rw [h1] at hle hxl
   split at h
   ·cases h
   ·rename_i hvn
    cases h
    have h2 : v.cells = [v] := by cases v <;> simp_all [AV.cells]
    have hvl := CI hve
    rw [h2] at hvl
    simp only [List.length_cons, List.length_nil, Nat.zero_add] at hvl hle hxl
    have hj : j = 0 := by omega
    subst hj
    refine ⟨?_, u, hv, ?_⟩
    ·have := D8 hve
     unfold AV.el; rw [Bool.and_eq_true]
     exact ⟨decide_eq_true (by rw [h2]; simpa using hxl), List.all_eq_true.2 this⟩
    ·have : y.cells.toList.length = 1 := by simp [hys, ← hxl]
     rw [List.drop_eq_nil_of_le zO]
     simp
 ·cases h
theorem KR {P : Program} {E : Env} {st st' : St} {t : Nat} {aa av : AV} {a v : Value} (hE : Ok P E) (hh : st.h = E.h) (hok : okT P t = true) (h : storeA P st t aa av = some st') (ha : rep P E aa a) (hv : rep P E av v) :
  st'.fr = st.fr ∧ st'.nx = st.nx ∧ ∃ E', E'.h = st'.h ∧ E'.nx = E.nx ∧ E.Le E' ∧ Ok P E' ∧ Goes P E E' ∧ (Instr.storeAt t a v).run P E.w = .ok () E'.w := by
 obtain ⟨d, i0, hd, hi0⟩ := Er hok
 unfold storeA at h
 split at h
 ·rename_i id n i j
  split at h
  ·rename_i hc
   rw [hh] at hc h
   obtain ⟨hlv, hn⟩ := hc
   split at h
   ·rename_i x hxi
    simp only [Option.map_eq_some_iff] at h
    obtain ⟨x', hst, rfl⟩ := h
    refine ⟨rfl, rfl, ?_⟩
    have B := hE.blk id hlv
    obtain ⟨c, vs, hb, hrl, hca, hcsz⟩ := B.at_
    obtain ⟨y, hyi, hy⟩ := BI hrl i x hxi
    have hxe := B.cl x (List.mem_of_getElem? hxi)
    obtain ⟨h1, h2, h3, h4, y', h5, h6⟩ := N9 hst hy hxe hv
    simp only [rep] at ha
    obtain ⟨_, _, ad, rfl, had⟩ := ha
    cases had hlv hn
    have hilt : i < (E.h id).xs.length := by
     rcases Nat.lt_or_ge i (E.h id).xs.length with h' | h'
     ·exact h'
     ·rw [List.getElem?_eq_none h'] at hxi; cases hxi
    have hys := CF hy hxe
    have hul : v.cells.toList.length = szT P t := by simpa using h1
    have hin : (E.m id).base + i * szT P (E.h id).t + szT P (E.h id).t ≤ (E.m id).base + (E.m id).cap * szT P (E.h id).t := by
     have : (i + 1) * szT P (E.h id).t ≤ (E.m id).cap * szT P (E.h id).t := Nat.mul_le_mul_right _ (Nat.le_trans hilt B.le)
     rw [Nat.add_mul] at this; omega
    have hlim : (E.m id).base + i * szT P (E.h id).t + szT P (E.h id).t ≤ (E.m id).base + E.lim id * szT P (E.h id).t := by
     have h0 : i + 1 ≤ E.lim id := by
      have := B.le
      unfold Env.lim; split <;> omega
     have : (i + 1) * szT P (E.h id).t ≤ E.lim id * szT P (E.h id).t := Nat.mul_le_mul_right _ h0
     rw [Nat.add_mul] at this; omega
    obtain ⟨o, ho⟩ : ∃ o, o = (E.m id).base + i * szT P (E.h id).t + j := ⟨_, rfl⟩
    have hol : o + v.cells.toList.length ≤ c.toList.length := by
     have : c.toList.length = c.size := by simp
     omega
    have hget := BZ (l := c.toList) (ns := v.cells.toList) hol
    have W := FO hE id hlv c (c.toList.take o ++ v.cells.toList ++ c.toList.drop (o + v.cells.toList.length)).toArray ((E.h id).xs.set i x') (vs.set i y') (E.h id).ex hb
     (by have := A3 (l := c.toList) (ns := v.cells.toList) hol; simpa using this)
     (fun p hp => by
      rw [List.getElem?_toArray, hget]
      by_cases hpo : p < o
      ·rw [if_pos hpo, Array.getElem?_toList]
      ·rw [if_neg hpo, if_neg zO, Array.getElem?_toList])
     (.inr zS)
     (PR hrl i h5)
     (by
      intro k w hk
      rw [List.getElem?_set] at hk
      by_cases hki : i = k
      ·subst hki
       rw [if_pos rfl, if_pos (by rw [AO hrl]; exact hilt)] at hk
       cases hk
       have hs' := CF h5 h4
       refine ⟨hs', fun q z hq => ?_⟩
       have hq' : y'.cells.toList[q]? = some z := by rw [Array.getElem?_toList]; exact hq
       rw [h6, ← hul, BZ (by rw [show y.cells.toList.length = y.cells.size by simp, hys, hul]; exact h3)] at hq'
       rw [List.getElem?_toArray, hget]
       by_cases q1 : q < j
       ·rw [if_pos q1] at hq'
        rw [if_pos zO, Array.getElem?_toList]
        exact (hca i y hyi).2 q z (by simpa using hq')
       ·rw [if_neg q1] at hq'
        by_cases q2 : q < j + v.cells.toList.length
        ·rw [if_pos q2] at hq'
         rw [if_neg zO, if_pos zO, ← hq']; congr 1; omega
        ·rw [if_neg q2] at hq'
         rw [if_neg zO, if_neg zO, Array.getElem?_toList]
         exact (hca i y hyi).2 q z (by simpa using hq')
      ·rw [if_neg hki] at hk
       obtain ⟨g1, g2⟩ := hca k w hk
       refine ⟨g1, fun q z hq => ?_⟩
       have hqlt : q < szT P (E.h id).t := by
        rcases Nat.lt_or_ge q w.cells.size with h' | h'
        ·omega
        ·rw [Array.getElem?_eq_none h'] at hq; cases hq
       rw [List.getElem?_toArray, hget]
       have hcell := g2 q z hq
       rcases Nat.lt_or_ge k i with hlt | hge
       ·have : (k + 1) * szT P (E.h id).t ≤ i * szT P (E.h id).t := Nat.mul_le_mul_right _ hlt
        rw [Nat.add_mul] at this
        rw [if_pos zO, Array.getElem?_toList]; exact hcell
       ·have : (i + 1) * szT P (E.h id).t ≤ k * szT P (E.h id).t := Nat.mul_le_mul_right _ zO
        rw [Nat.add_mul] at this
        rw [if_neg zO, if_neg zO, Array.getElem?_toList]; exact hcell)
     (by
      intro z hz
      rcases List.mem_or_eq_of_mem_set hz with hz | rfl
      ·exact B.cl z hz
      ·exact h4)
     zS (by simpa using B.le) (by simpa using B.ex)
    obtain ⟨W1, W2, W3⟩ := W
    refine ⟨_, ?_, ?_, W1, W2, W3, ?_⟩
    ·simp
    ·rfl
    ·have hrun := run_storeCells_at (P := P) (E.m id).b o (E.h id).t v.cells.toList 0 c E.w hb (by simpa using hol) h2
     simp only [Nat.add_zero] at hrun
     simp only [Instr.storeAt, Instr.sureAddr, storeVar, Sem.run_bind, Sem.run_pure, Result.andThen_ok, A4 hi0, h1, ne_eq, not_true_eq_false, if_false]
     rw [← ho]
     exact hrun
   ·cases h
  ·cases h
 ·cases h
theorem OA {P : Program} {E : Env} (hE : Ok P E) (id : Nat) (hlv : (E.h id).lv = true) (c : Array Value) (xs : List AV) (vs : List Value) (cap : Nat) (hr : repL P E xs vs) (hc : CellsAt c 0 (szT P (E.h id).t) vs)
  (hcl : ∀ x ∈ xs, x.el P (E.h id).t = true) (hlt : (E.h id).xs.length < xs.length) (hle : xs.length ≤ cap) (hsz : cap * szT P (E.h id).t ≤ c.size) (hgr : (E.h id).gr = true) :
  let E' : Env := ⟨pushW E.w (.cells c (E.h id).t (0, 0)), E.I, upd E.m id ⟨E.w.heap.size, 0, cap⟩, upd E.h id { E.h id with xs := xs, ex := false }, E.nx⟩
  E.Le E' ∧ Ok P E' ∧ Goes P E E' := by
 intro E'
 have hmb : ∀ id, (E.h id).lv = true → (E.m id).b < E.w.heap.size := fun id h => by
  obtain ⟨c, vs, h1, _⟩ := (hE.blk id h).at_; exact BC h1
 have hLe : E.Le E' := by
  refine ⟨Nat.le_refl _, fun b hb => ⟨hb, A6 (hE.imm b hb)⟩, fun i hi => ?_, fun i hi n hn h1 h2 => ?_⟩
  ·by_cases h : i = id
   ·subst h; simp only [E', upd, if_true]; omega
   ·simp [E', upd, h]
  ·by_cases h : i = id
   ·subst h; simp only [E', upd, if_true] at h1 h2; omega
   ·simp only [E', upd, h, if_false] at h1 h2 ⊢; exact ⟨h1, h2, by trivial, by trivial⟩
 have back : ∀ i, (E'.h i).lv = true → (E.h i).lv = true := fun i hi => by
  by_cases h : i = id
  ·subst h; exact hlv
  ·simpa [E', upd, h] using hi
 refine ⟨hLe, ⟨fun i hi => ?_, fun i j hi hj hij => ?_, fun b hb => Nat.lt_of_lt_of_le (hE.imm b hb) (by simp [E', pushW]), hE.tab.le hLe⟩, ?_⟩
 ·by_cases h : i = id
  ·subst h
   refine ⟨(hE.blk i hlv).lt, by simp [E', upd], by simp [E', upd], by simpa [E', upd] using hle, by simpa [E', upd] using hcl, ?_, ⟨c, vs, ?_, ?_, ?_, ?_⟩⟩
   ·simp only [E', upd, if_true]; exact fun h => Nat.lt_irrefl _ (hE.imm _ h)
   ·simp only [E', upd, if_true]; exact Es
   ·simp only [E', upd, if_true]; exact Ax hLe _ _ hr
   ·simpa [E', upd] using hc
   ·simpa [E', upd] using hsz
  ·have hi' := back i hi
   exact (hE.blk i hi').move hLe (by simp [E', upd, h]) (by simp [E', upd, h]) (A6 (hmb i hi')) (hE.blk i hi').dark
 ·have hi' := back i hi
  have hj' := back j hj
  by_cases h1 : i = id <;> by_cases h2 : j = id
  ·rw [h1, h2]
  ·simp only [E', upd, h1, h2, if_true, if_false] at hij
   exact absurd (hmb j hj') zO
  ·simp only [E', upd, h1, h2, if_true, if_false] at hij
   exact absurd (hmb i hi') zO
  ·simp only [E', upd, h1, h2, if_false] at hij
   exact hE.inj i j hi' hj' hij
 ·refine ⟨rfl, rfl, rfl, by simp [E', pushW], fun b hb _ => A6 hb, fun i hi c' hc' => ⟨c', (A6 (hmb i hi)).trans hc', rfl, fun _ _ => rfl⟩, fun i hi => ?_, fun b hb => .inl hb, Nat.le_refl _, fun i _ => by by_cases h : i = id <;> simp [E', upd, h]⟩
  by_cases h : i = id
  ·exact .inr ⟨by simp [E', upd, h], .inr (by rw [h]; exact hgr)⟩
  ·have hi' := back i hi
   exact .inl ⟨hi', by simp [E', upd, h], by simp [E', upd, h], by simp [E', upd, h, Env.lim]⟩
theorem DG {P : Program} {E : Env} {st : St} {e : Nat} {ax : AV} {u : Value} {ys : List AV} (hE : Ok P E) (hh : st.h = E.h) (h : winA st e ax = some ys) (hx : rep P E ax u) :
  ∃ L a k, u = .slice a ys.length k ∧ repL P E ys L ∧ (∀ v ∈ L, v.cells.size = szT P e) ∧ (∀ y ∈ ys, y.el P e = true) ∧
   (Builtin.firstCells (szT P e) ys.length u).run P E.w = .ok (flat L).toArray E.w := by
 have key : ∀ (L : List Value) (c : Array Value) (t : TypeId) (fz : Nat × Nat) (b off k n : Nat), E.w.heap[b]? = some (.cells c t fz) → CellsAt c off (szT P e) L → n = L.length →
   (Builtin.firstCells (szT P e) n (.slice (some ⟨b, off, none⟩) n k)).run P E.w = .ok (flat L).toArray E.w := by
  intro L c t fz b off k n hb hc hn
  have := run_loadCells_list (P := P) E.w ⟨b, off, none⟩ (flat L) (fun j v hj => by rw [DQ, JR hb]; exact hc.flat_get j v hj)
  rw [BF hc.sizes, ← hn] at this
  exact this
 have zero : ∀ a k, (Builtin.firstCells (szT P e) 0 (.slice a 0 k)).run P E.w = .ok #[] E.w := by
  intro a k
  cases a with
  | none => rfl
  | some a => simp [Builtin.firstCells, loadCells, loadCellsFrom]
 unfold winA at h
 split at h
 ·cases h
  simp only [rep] at hx
  obtain ⟨a, rfl⟩ := hx
  exact ⟨[], a, 0, rfl, by simp [repL], zS, zS, by simpa [flat] using zero a 0⟩
 ·rename_i t xs sp ex
  split at h
  ·rename_i ht; subst ht; cases h
   simp only [rep] at hx
   obtain ⟨a, cap, rfl, _, _, hcl, vs, us, hvs, hus, hne⟩ := hx
   by_cases h0 : ys.length = 0
   ·have hxs : ys = [] := List.length_eq_zero_iff.1 h0
    subst hxs
    simp only [repL] at hvs; subst hvs
    exact ⟨[], a, cap, rfl, by simp [repL], zS, zS, by simpa [flat] using zero a cap⟩
   ·obtain ⟨b, off, c, fz, rfl, hI, hb, hca⟩ := hne zO
    have hv : CellsAt c off (szT P t) vs := by
     have := hca.take vs.length
     simpa using this
    exact ⟨vs, _, cap, rfl, hvs, hv.sizes, fun y hy => hcl y (by simp [hy]), key vs c fz.1 fz.2 b off cap _ hb hv (AO hvs).symm⟩
  ·cases h
 ·rename_i id n off len
  split at h
  ·rename_i hc
   rw [hh] at hc h
   obtain ⟨hlv, hn, ht, hle⟩ := hc
   cases h
   simp only [rep] at hx
   obtain ⟨_, _, ad, k, rfl, hx⟩ := hx
   obtain ⟨h1, h2, h3⟩ := hx hlv hn
   have B := hE.blk id hlv
   obtain ⟨c, vs, hb, hrl, hca, _⟩ := B.at_
   have hll : (((E.h id).xs.drop off).take len).length = len := by rw [List.length_take, List.length_drop]; omega
   by_cases h0 : len = 0
   ·subst h0
    have : (((E.h id).xs.drop off).take 0) = [] := by simp
    rw [this]
    exact ⟨[], some ad, k, rfl, by simp [repL], zS, zS, by simpa [flat] using zero (some ad) k⟩
   ·have hB := B.le
    cases h3 zO
    have hv := (hca.drop off).take len
    refine ⟨(vs.drop off).take len, _, k, by rw [hll], BV (BO hrl off) len, ?_, fun y hy => ?_, ?_⟩
    ·rw [← ht]; exact hv.sizes
    ·rw [← ht]; exact B.cl y (List.mem_of_mem_drop (List.mem_of_mem_take hy))
    ·rw [← ht] at key ⊢
     rw [hll]
     exact key _ c _ _ _ _ _ _ hb hv (by rw [List.length_take, List.length_drop, AO hrl]; omega)
  ·cases h
 ·cases h
theorem C0 {P : Program} {w w' : World} {t u e ty n k m kk : Nat} {i : TypeInfo} {a x : Option Addr} {new : Array Value} (ht : elT P t = some e) (hu : elT P u = some e) (hi : P.info? e = some i)
  (hle : n + m ≤ k) (hnew : (Builtin.firstCells (szT P e) m (.slice x m kk)).run P w = .ok new w)
  (hst : (match a with | some a => storeCells (a.add (n * szT P e)) new.toList | none => pure () : Sem Unit).run P w = .ok () w') :
  (Builtin.append_ #[t, u] ty #[.slice a n k, .slice x m kk]).run P w = .ok (.slice a (n + m) k) w' := by
 simp only [Builtin.append_, List.getElem?_toArray, List.getElem?_cons_zero, List.getElem?_cons_succ, Sem.run_bind, AK (BB ht), AK (BB hu), Result.andThen_ok, A4 hi, Sem.run_pure, Builtin.lenOf, Bool.false_eq_true, if_false, hle, if_true, Bool.not_false]
 rw [hnew]
 simp only [Result.andThen_ok]
 cases a with
 | none => simp only at hst ⊢; simp only [Sem.run_pure, Result.ok.injEq, true_and] at hst; subst hst; simp
 | some a => simp only at hst ⊢; rw [Sem.run_bind, hst]; rfl
theorem ET {P : Program} {w : World} {t u e ty n k m kk : Nat} {z : Value} {a x : Option Addr} {old new : List Value} (ht : elT P t = some e) (hu : elT P u = some e) (hz : (P.info? e).bind (·.zero) = some z)
  (hzs : z.cells.size = szT P e) (hgt : k < n + m) (hb : (n + m) * byT P e ≤ reach) (hr : n + m ≤ reach) (hold : (Builtin.firstCells (szT P e) n (.slice a n k)).run P (drewW w) = .ok old.toArray (drewW w))
  (hnew : (Builtin.firstCells (szT P e) m (.slice x m kk)).run P (drewW w) = .ok new.toArray (drewW w)) (hlo : old.length = n * szT P e) (hln : new.length = m * szT P e) :
  ∃ cap c, n + m ≤ cap ∧ c.size = cap * szT P e ∧ (∀ p, p < (n + m) * szT P e → c[p]? = (old ++ new)[p]?) ∧
   (Builtin.append_ #[t, u] ty #[.slice a n k, .slice x m kk]).run P w = .ok (.slice (some ⟨w.heap.size, 0, none⟩) (n + m) cap) (pushW (drewW w) (.cells c e (0, 0))) := by
 obtain ⟨i, hi⟩ := Option.isSome_iff_exists.1 (Bf hz)
 have hby : byT P e = i.bytes := by simp [byT, hi]
 have hroom : ∀ n w, (askRoom n).run P w = .ok () w := fun n w => by unfold askRoom; split <;> rfl
 have hcut : ∃ cap, n + m ≤ cap ∧ (choose (.appendCap (n + m) k e)).run P w = .ok cap (drewW w) := by
  refine ⟨(Question.appendCap (n + m) k e).cut (w.tape w.drawn (.appendCap (n + m) k e)), ?_, ?_⟩
  ·simp [Question.cut]
  ·simp [choose, Sem.run, Question.forced, drewW]
 obtain ⟨cap, hcap, hch⟩ := hcut
 have h1 : ¬ ((n + m : Nat) : Int) > IntKind.i64.max := by
  have h3 : IntKind.i64.max = 9223372036854775807 := by decide
  rw [h3]; unfold reach at hr; omega
 have h2 : ¬ Builtin.nextslicecap (n + m) k * i.bytes > 2 ^ 48 := by
  have := Room.nextslicecap_le' hgt
  have h4 : Builtin.nextslicecap (n + m) k * i.bytes ≤ 2 * (n + m) * i.bytes := Nat.mul_le_mul_right _ this
  rw [← hby] at h4 ⊢
  rw [Nat.mul_assoc] at h4
  unfold reach at hb; omega
 refine ⟨cap, old.toArray ++ new.toArray ++ Builtin.zeroCells z.cells (cap - (n + m)), hcap, ?_, ?_, ?_⟩
 ·simp only [Array.size_append, List.size_toArray, Builtin.zeroCells, Array.size_map, Array.size_range, hlo, hln, hzs]
  rw [← Nat.add_mul, ← Nat.add_mul]; congr 1; omega
 ·intro p hp
  rw [Nat.add_mul] at hp
  rw [Array.getElem?_append_left (by simp only [Array.size_append, List.size_toArray, hlo, hln]; exact hp)]
  simp
 ·have hnle : ¬ n + m ≤ k := by omega
  simp only [Builtin.append_, List.getElem?_toArray, List.getElem?_cons_zero, List.getElem?_cons_succ, Sem.run_bind, AK (BB ht), AK (BB hu), Result.andThen_ok, A4 hi, Sem.run_pure, Builtin.lenOf, Bool.false_eq_true, if_false, hnle, Bool.not_false, if_true]
  simp only [CS hi, Result.andThen_ok, h1, false_and, if_false, h2, hch, hroom, hold, hnew, Sem.run_bind, DR hz, Bg, Sem.run_pure]
  rfl
theorem Fe {P : Program} {e : Nat} (h : zokT P e = true) : ∃ z, (P.info? e).bind (·.zero) = some z ∧ z.cells.size = szT P e := by
 unfold zokT at h
 cases hz : zeroA P e with
 | none => rw [hz] at h; simp at h
 | some x =>
  rw [hz] at h
  obtain ⟨v, hv, rfl⟩ := DF hz
  exact ⟨v, hv, CF (E := ⟨default, fun _ => False, fun _ => ⟨0, 0, 0⟩, fun _ => Blk.dead, 0⟩) (CL v) (by simpa using h)⟩
theorem EU {P : Program} {e : Nat} {c : Array Value} {L0 L : List Value} (h0 : ∀ v ∈ L0, v.cells.size = szT P e) (h1 : ∀ v ∈ L, v.cells.size = szT P e)
  (hc : ∀ p, p < (L0.length + L.length) * szT P e → c[p]? = (flat L0 ++ flat L)[p]?) : CellsAt c 0 (szT P e) (L0 ++ L) := by
 have hs : ∀ v ∈ L0 ++ L, v.cells.size = szT P e := fun v hv => (List.mem_append.1 hv).elim (h0 v) (h1 v)
 refine CellsAt.of_flat hs fun p u hp => ?_
 have hlt : p < (L0.length + L.length) * szT P e := by
  rcases Nat.lt_or_ge p (flat (L0 ++ L)).length with h' | h'
  ·rw [BF hs, List.length_append] at h'; exact h'
  ·rw [List.getElem?_eq_none h'] at hp; cases hp
 rw [Nat.zero_add, hc p hlt, ← CM]; exact hp
theorem F8 {sz : Nat} : ∀ (k : Nat) {vs : List Value}, (∀ v ∈ vs, v.cells.size = sz) → flat (vs.take k) = (flat vs).take (k * sz)
 | 0, vs, _ => by simp [flat]
 | k + 1, [], _ => by simp [flat]
 | k + 1, v :: vs, h => by
  have h1 := F8 k (vs := vs) (fun x hx => h x (by simp [hx]))
  have h2 : v.cells.toList.length = sz := by simpa using h v zS
  simp only [flat, List.take_succ_cons, List.flatMap_cons] at h1 ⊢
  have e1 : v.cells.toList.take ((k + 1) * sz) = v.cells.toList := List.take_of_length_le (by rw [h2, Nat.add_mul]; omega)
  have e2 : (k + 1) * sz - v.cells.toList.length = k * sz := by rw [h2, Nat.add_mul]; omega
  rw [h1, List.take_append, e1, e2]
theorem F9 {sz : Nat} : ∀ (k : Nat) {vs : List Value}, (∀ v ∈ vs, v.cells.size = sz) → flat (vs.drop k) = (flat vs).drop (k * sz)
 | 0, vs, _ => by simp [flat]
 | k + 1, [], _ => by simp [flat]
 | k + 1, v :: vs, h => by
  have h1 := F9 k (vs := vs) (fun x hx => h x (by simp [hx]))
  have h2 : v.cells.toList.length = sz := by simpa using h v zS
  simp only [flat, List.drop_succ_cons, List.flatMap_cons] at h1 ⊢
  have e1 : v.cells.toList.drop ((k + 1) * sz) = [] := List.drop_eq_nil_of_le (by rw [h2, Nat.add_mul]; omega)
  have e2 : (k + 1) * sz - v.cells.toList.length = k * sz := by rw [h2, Nat.add_mul]; omega
  rw [h1, List.drop_append, e1, e2, List.nil_append]
theorem DS {P : Program} {E : Env} {id n len cap b : Nat} (h1 : id < E.nx) (h2 : (E.h id).xs.length = n) (h3 : E.m id = ⟨b, 0, cap⟩) (hl : len ≤ n) :
  rep P E (.ref id n 0 len) (.slice (some ⟨b, 0, none⟩) len cap) := by
 simp only [rep]
 refine ⟨h1, zO, _, cap, rfl, fun _ _ => ⟨zO, by rw [h3]; rfl, fun _ => by rw [h3]; simp⟩⟩
set_option maxHeartbeats 1600000 in
theorem Ff {P : Program} {E : Env} {st st' : St} {t u e ty : Nat} {s ax z : AV} {ys : List AV} {us ux : Value} (hE : Ok P E) (hh : st.h = E.h) (hnx : st.nx = E.nx)
  (ht : elT P t = some e) (hu : elT P u = some e) (hzok : zokT P e = true) (hw : winA st e ax = some ys) (h : appendA P st e s ys = some (z, st')) (hs : rep P E s us) (hx : rep P E ax ux) :
  st'.fr = st.fr ∧ Does P E (Builtin.append_ #[t, u] ty #[us, ux]) z st'.h st'.nx := by
 obtain ⟨zv, hzv, hzs⟩ := Fe hzok
 obtain ⟨i, hi⟩ := Option.isSome_iff_exists.1 (Bf hzv)
 obtain ⟨L, xa, xk, rfl, hL, hLs, hLe, hfirst⟩ := DG hE hh hw hx
 have hLl : (flat L).length = ys.length * szT P e := by rw [BF hLs, AO hL]
 obtain ⟨D1, D2, D3⟩ := HI hE
 have hwD : winA st e ax = some ys := hw
 obtain ⟨L', xa', xk', hxe, hL', hLs', _, hfirst'⟩ := DG (E := ⟨drewW E.w, E.I, E.m, E.h, E.nx⟩) D2 hh hwD (CR D1 _ _ hx)
 cases hxe
 have hLl' : (flat L').length = ys.length * szT P e := by rw [BF hLs', AO hL']
 unfold appendA at h
 split at h
 ·-- nil
  simp only [rep] at hs
  obtain ⟨a, rfl⟩ := hs
  split at h
  ·rename_i hys
   cases h
   refine ⟨rfl, ?_⟩
   rw [hh, hnx]
   refine Does.same hE ⟨.slice a 0 0, ?_, by simp [rep]⟩
   subst hys
   have hf : flat L = [] := List.length_eq_zero_iff.1 (by simp [hLl])
   have := C0 (P := P) (w := E.w) (w' := E.w) (ty := ty) (n := 0) (k := 0) (a := a) ht hu hi zS hfirst (by
    rw [hf]; cases a <;> rfl)
   simpa using this
  ·rename_i hys
   split at h
   ·rename_i hb
    cases h
    refine ⟨rfl, ?_⟩
    have hpos : 0 < ys.length := List.length_pos_iff.2 hys
    obtain ⟨cap, c, g1, g2, g3, g4⟩ := ET (P := P) (w := E.w) (ty := ty) (n := 0) (k := 0) (a := a) (old := []) ht hu hzv hzs zO (by simpa using hb.1) (by simpa using hb.2)
     (by cases a <;> simp [Builtin.firstCells, loadCells, loadCellsFrom]) hfirst' zS hLl'
    obtain ⟨n1, n2, n3⟩ := Dq D2 c e ys L' cap false true hL' (by
     have := EU (P := P) (e := e) (c := c) (L0 := []) (L := L') zS hLs' (fun p hp => by
      have := g3 p (by simpa [AO hL'] using hp)
      simpa [flat] using this)
     simpa using this) hLe (by simpa using g1) zS zO
    refine ⟨⟨pushW (drewW E.w) (.cells c e (0, 0)), E.I, upd E.m E.nx ⟨E.w.heap.size, 0, cap⟩, upd E.h E.nx ⟨e, ys, false, true, true⟩, E.nx + 1⟩, .slice (some ⟨E.w.heap.size, 0, none⟩) ys.length cap, ?_, ?_, D1.trans n1, n2, D3.trans hE n3, ?_, ?_⟩
    ·simp [St.new, hh, hnx]
    ·simp [St.new, hnx]
    ·simpa using g4
    ·rw [hnx]; exact DS (Nat.lt_succ_self _) (by simp [upd]) (by simp [upd]) (Nat.le_refl _)
   ·cases h
 ·-- a slice that nobody writes and that is full
  rename_i t' xs sp ex
  split at h
  ·rename_i hc
   obtain ⟨hex, hsp, hys, hte⟩ := hc
   subst hte; subst hsp
   split at h
   ·rename_i hb
    cases h
    refine ⟨rfl, ?_⟩
    have hs' := CR D1 _ _ hs
    have hs0 := hs
    simp only [rep] at hs
    obtain ⟨a, k, rfl, hk1, hk2, hcl, _⟩ := hs
    have hk := hk2 hex
    simp only [List.length_nil, Nat.add_zero] at hk
    have hpos : 0 < ys.length := List.length_pos_iff.2 hys
    obtain ⟨L0, a0, k0, he0, hL0, hLs0, hLe0, hf0⟩ := DG (E := ⟨drewW E.w, E.I, E.m, E.h, E.nx⟩) (st := st) (e := t') (ys := xs) D2 hh (by simp [winA]) hs'
    cases he0
    have hLl0 : (flat L0).length = xs.length * szT P t' := by rw [BF hLs0, AO hL0]
    obtain ⟨cap, c, g1, g2, g3, g4⟩ := ET (P := P) (w := E.w) (ty := ty) (n := xs.length) (k := k) (a := a) (old := flat L0) ht hu hzv hzs zO hb.1 hb.2
     hf0 hfirst' hLl0 hLl'
    obtain ⟨n1, n2, n3⟩ := Dq D2 c t' (xs ++ ys) (L0 ++ L') cap false true (Ap hL0 hL') (EU hLs0 hLs' (fun p hp => g3 p (by simpa [AO hL', AO hL0] using hp)))
     (fun x hx => (List.mem_append.1 hx).elim (hLe0 x) (hLe x)) (by simpa using g1) zS zO
    refine ⟨⟨pushW (drewW E.w) (.cells c t' (0, 0)), E.I, upd E.m E.nx ⟨E.w.heap.size, 0, cap⟩, upd E.h E.nx ⟨t', xs ++ ys, false, true, true⟩, E.nx + 1⟩, .slice (some ⟨E.w.heap.size, 0, none⟩) (xs.length + ys.length) cap, ?_, ?_, D1.trans n1, n2, D3.trans hE n3, g4, ?_⟩
    ·simp [St.new, hh, hnx]
    ·simp [St.new, hnx]
    ·rw [hnx]; exact DS (Nat.lt_succ_self _) (by simp [upd]) (by simp [upd]) (Nat.le_refl _)
   ·cases h
  ·split at h
   ·rename_i hc
    obtain ⟨rfl, hte⟩ := hc
    cases h
    refine ⟨rfl, ?_⟩
    rw [hh, hnx]
    have hs0 := hs
    simp only [rep] at hs
    obtain ⟨a, k, rfl, hk1, _⟩ := hs
    have hf : flat L = [] := List.length_eq_zero_iff.1 (by simp [hLl])
    refine Does.same hE ⟨.slice a xs.length k, ?_, hs0⟩
    have := C0 (P := P) (w := E.w) (w' := E.w) (ty := ty) (n := xs.length) (k := k) (a := a) ht hu hi zW hfirst (by
     rw [hf]; cases a <;> rfl)
    simpa using this
   ·cases h
 ·-- a private block
  rename_i id n off len
  split at h
  ·rename_i hc
   rw [hh] at hc h
   obtain ⟨hlv, hn, hte, hle⟩ := hc
   have B := hE.blk id hlv
   obtain ⟨c, vs, hb, hrl, hca, hcs⟩ := B.at_
   have hs' := CR D1 _ _ hs
   have hs0 := hs
   simp only [rep] at hs
   obtain ⟨hid, hnl, ad, k, rfl, hs⟩ := hs
   obtain ⟨_, hk, hkad⟩ := hs hlv hn
   have hBle := B.le
   split at h
   ·-- in what is known
    rename_i hin
    cases h
    refine ⟨rfl, ?_⟩
    by_cases hys : ys = []
    ·subst hys
     have hsame : upd E.h id { E.h id with xs := (E.h id).xs.take (off + len) ++ [] ++ (E.h id).xs.drop (off + len + ([] : List AV).length) } = E.h := by
      funext j
      by_cases hj : j = id
      ·subst hj; simp [upd]
      ·simp [upd, hj]
     rw [hh] at *
     rw [hsame, hnx]
     have hf : flat L = [] := List.length_eq_zero_iff.1 (by simp [hLl])
     refine Does.same hE ⟨.slice (some ad) len k, ?_, by simpa using hs0⟩
     have := C0 (P := P) (w := E.w) (w' := E.w) (ty := ty) (n := len) (k := k) (a := some ad) (m := 0) ht hu hi zO hfirst (by rw [hf]; rfl)
     simpa using this
    ·have hpos : 0 < ys.length := List.length_pos_iff.2 hys
     cases hkad zO
     have hvl := AO hrl
     obtain ⟨S, hS⟩ : ∃ S, S = szT P (E.h id).t := ⟨_, rfl⟩
     rw [hte] at hS
     have hnS : (off + len + ys.length) * S ≤ n * S := Nat.mul_le_mul_right _ hin
     have hcapS : n * S ≤ (E.m id).cap * S := Nat.mul_le_mul_right _ zO
     have hlimS : n * S ≤ E.lim id * S := Nat.mul_le_mul_right _ (by unfold Env.lim; split <;> omega)
     rw [Nat.add_mul, Nat.add_mul] at hnS
     rw [hte, ← hS] at hca hcs
     rw [← hS] at hLs hLl hfirst
     obtain ⟨o, ho⟩ : ∃ o, o = (E.m id).base + off * S + len * S := ⟨_, rfl⟩
     have hcl : c.toList.length = c.size := by simp
     have hol : o + (flat L).length ≤ c.toList.length := by omega
     have hget := BZ (l := c.toList) (ns := flat L) hol
     have hfv : (flat vs).length = n * S := by rw [BF hca.sizes, hvl, hn]
     have hone : ∀ v ∈ flat L, v.oneCell' = true := by
      intro v hv
      obtain ⟨x, hx1, hx2⟩ := List.mem_flatMap.1 hv
      obtain ⟨j, hj⟩ := List.getElem?_of_mem hx1
      have hjl : j < ys.length := by
       rw [← AO hL]
       rcases Nat.lt_or_ge j L.length with h' | h'
       ·exact h'
       ·rw [List.getElem?_eq_none h'] at hj; cases hj
      obtain ⟨x', hx3, hx4⟩ := BI hL j _ (List.getElem?_eq_getElem hjl)
      rw [hj] at hx3; cases hx3
      have hye := hLe _ (List.getElem_mem hjl)
      exact Fb (Cf hx4 (by rw [CI hye, hLs x hx1, hS])) (D8 hye) v hx2
     have W := FO hE id hlv c (c.toList.take o ++ flat L ++ c.toList.drop (o + (flat L).length)).toArray ((E.h id).xs.take (off + len) ++ ys ++ (E.h id).xs.drop (off + len + ys.length))
      (vs.take (off + len) ++ L ++ vs.drop (off + len + ys.length)) (E.h id).ex hb
      (by have := A3 (l := c.toList) (ns := flat L) hol; simpa using this)
      (fun p hp => by
       rw [hte, ← hS] at hp
       rw [List.getElem?_toArray, hget]
       by_cases hpo : p < o
       ·rw [if_pos hpo, Array.getElem?_toList]
       ·rw [if_neg hpo, if_neg zO, Array.getElem?_toList])
      (.inr (A3 (l := (E.h id).xs) (ns := ys) zO))
      (Ap (Ap (BV hrl _) hL) (BO hrl _))
      (by
       rw [hte, ← hS]
       refine CellsAt.of_flat (fun v hv => ?_) fun p u hp => ?_
       ·simp only [List.mem_append] at hv
        rcases hv with (hv | hv) | hv
        ·exact hca.sizes v (List.mem_of_mem_take hv)
        ·exact hLs v hv
        ·exact hca.sizes v (List.mem_of_mem_drop hv)
       ·rw [CM, CM, F8 _ hca.sizes, F9 _ hca.sizes, Nat.add_mul (off + len) ys.length, ← hLl] at hp
        rw [BZ (by rw [hfv, Nat.add_mul, hLl]; omega)] at hp
        rw [List.getElem?_toArray, hget]
        rw [Nat.add_mul] at hp
        by_cases q1 : p < off * S + len * S
        ·rw [if_pos q1] at hp
         rw [if_pos zO, Array.getElem?_toList]
         exact hca.flat_get p u hp
        ·rw [if_neg q1] at hp
         by_cases q2 : p < off * S + len * S + (flat L).length
         ·rw [if_pos q2] at hp
          rw [if_neg zO, if_pos zO, ← hp]; congr 1; omega
         ·rw [if_neg q2] at hp
          rw [if_neg zO, if_neg zO, Array.getElem?_toList]
          exact hca.flat_get p u hp)
      (by
       intro x hx
       simp only [List.mem_append] at hx
       rcases hx with (hx | hx) | hx
       ·exact B.cl x (List.mem_of_mem_take hx)
       ·rw [hte]; exact hLe x hx
       ·exact B.cl x (List.mem_of_mem_drop hx))
      (Nat.le_of_eq (A3 (l := (E.h id).xs) (ns := ys) zO).symm)
      (by rw [A3 (l := (E.h id).xs) (ns := ys) zO]; exact B.le)
      (by rw [A3 (l := (E.h id).xs) (ns := ys) zO]; exact B.ex)
     obtain ⟨W1, W2, W3⟩ := W
     have hrun := run_storeCells_at (P := P) (E.m id).b o (E.h id).t (flat L) 0 c E.w hb (by rw [hcl] at hol; simpa using hol) hone
     simp only [Nat.add_zero] at hrun
     have hroom := C0 (P := P) (w := E.w) (ty := ty) (n := len) (m := ys.length) (k := k) (a := some ⟨(E.m id).b, (E.m id).base + off * szT P (E.h id).t, none⟩) ht hu hi zO (by rw [← hS]; exact hfirst) (by
      simp only [DQ]
      rw [hte, ← hS, ← ho]; exact hrun)
     refine ⟨_, _, ?_, ?_, W1, W2, W3, hroom, ?_⟩
     ·simp [hh]
     ·exact hnx.symm
     ·simp only [rep]
      have hlen := A3 (l := (E.h id).xs) (ns := ys) (o := off + len) zO
      refine ⟨hid, by simp only [upd, if_true]; rw [hlen]; exact hnl, _, k, rfl, fun _ _ => ⟨zO, hk, fun _ => by simp [upd]⟩⟩
   ·rename_i hnin
    split at h
    ·rename_i hg
     obtain ⟨rfl, rfl, hgr, hb1, hb2⟩ := hg
     subst hn
     cases h
     refine ⟨rfl, ?_⟩
     have hpos : 0 < ys.length := by omega
     obtain ⟨S, hS⟩ : ∃ S, S = szT P (E.h id).t := ⟨_, rfl⟩
     rw [hte] at hS
     have hvl := AO hrl
     by_cases hroomy : (E.h id).xs.length + ys.length ≤ k
     ·cases hkad zO
      have hnS : ((E.h id).xs.length + ys.length) * S ≤ (E.m id).cap * S := Nat.mul_le_mul_right _ zO
      rw [Nat.add_mul] at hnS
      rw [hte, ← hS] at hca hcs
      rw [← hS] at hLs hLl hfirst
      obtain ⟨o, ho⟩ : ∃ o, o = (E.m id).base + (E.h id).xs.length * S := ⟨_, rfl⟩
      have hcl : c.toList.length = c.size := by simp
      have hol : o + (flat L).length ≤ c.toList.length := by omega
      have hget := BZ (l := c.toList) (ns := flat L) hol
      have hfv : (flat vs).length = (E.h id).xs.length * S := by rw [BF hca.sizes, hvl]
      have hone : ∀ v ∈ flat L, v.oneCell' = true := by
       intro v hv
       obtain ⟨x, hx1, hx2⟩ := List.mem_flatMap.1 hv
       obtain ⟨j, hj⟩ := List.getElem?_of_mem hx1
       have hjl : j < ys.length := by
        rw [← AO hL]
        rcases Nat.lt_or_ge j L.length with h' | h'
        ·exact h'
        ·rw [List.getElem?_eq_none h'] at hj; cases hj
       obtain ⟨x', hx3, hx4⟩ := BI hL j _ (List.getElem?_eq_getElem hjl)
       rw [hj] at hx3; cases hx3
       have hye := hLe _ (List.getElem_mem hjl)
       exact Fb (Cf hx4 (by rw [CI hye, hLs x hx1, hS])) (D8 hye) v hx2
      have W := FO hE id hlv c (c.toList.take o ++ flat L ++ c.toList.drop (o + (flat L).length)).toArray ((E.h id).xs ++ ys) (vs ++ L) false hb
       (by have := A3 (l := c.toList) (ns := flat L) hol; simpa using this)
       (fun p hp => by
        have hl : E.lim id = (E.m id).cap := by simp [Env.lim, hgr]
        rw [hte, ← hS, hl] at hp
        rw [List.getElem?_toArray, hget]
        by_cases hpo : p < o
        ·rw [if_pos hpo, Array.getElem?_toList]
        ·rw [if_neg hpo, if_neg zO, Array.getElem?_toList])
       (.inl hgr) (Ap hrl hL)
       (by
        rw [hte, ← hS]
        refine CellsAt.of_flat (fun v hv => (List.mem_append.1 hv).elim (hca.sizes v) (hLs v)) fun p u hp => ?_
        rw [CM] at hp
        rw [List.getElem?_toArray, hget]
        by_cases q1 : p < (E.h id).xs.length * S
        ·rw [List.getElem?_append_left zO] at hp
         rw [if_pos zO, Array.getElem?_toList]
         exact hca.flat_get p u hp
        ·rw [List.getElem?_append_right zO, hfv] at hp
         have hpl : p - (E.h id).xs.length * S < (flat L).length := by
          rcases Nat.lt_or_ge (p - (E.h id).xs.length * S) (flat L).length with h' | h'
          ·exact h'
          ·rw [List.getElem?_eq_none h'] at hp; cases hp
         rw [if_neg zO, if_pos zO, ← hp]; congr 1; omega)
       (fun x hx => (List.mem_append.1 hx).elim (B.cl x) (fun h => by rw [hte]; exact hLe x h))
       zS (by rw [List.length_append]; omega) zS
      obtain ⟨W1, W2, W3⟩ := W
      have hrun := run_storeCells_at (P := P) (E.m id).b o (E.h id).t (flat L) 0 c E.w hb (by rw [hcl] at hol; simpa using hol) hone
      simp only [Nat.add_zero] at hrun
      have hroom := C0 (P := P) (w := E.w) (ty := ty) (n := (E.h id).xs.length) (m := ys.length) (k := k) (a := some ⟨(E.m id).b, (E.m id).base + 0 * szT P (E.h id).t, none⟩) ht hu hi zO (by rw [← hS]; exact hfirst) (by
       simp only [DQ]
       rw [Nat.zero_mul, Nat.add_zero, ← hS, ← ho]; exact hrun)
      refine ⟨_, _, ?_, ?_, W1, W2, W3, hroom, ?_⟩
      ·simp [hh]
      ·exact hnx.symm
      ·simp only [rep]
       refine ⟨hid, by simp [upd], _, k, rfl, fun _ _ => ⟨zO, hk, fun _ => by simp [upd]⟩⟩
     ·obtain ⟨L0, a0, k0, he0, hL0, hLs0, hLe0, hf0⟩ := DG (E := ⟨drewW E.w, E.I, E.m, E.h, E.nx⟩) (st := st) (e := e) (ys := (E.h id).xs) D2 hh (by
       simp [winA, hh, hlv, hte]) hs'
      cases he0
      have hLl0 : (flat L0).length = (E.h id).xs.length * szT P e := by rw [BF hLs0, AO hL0]
      obtain ⟨cap, c1, g1, g2, g3, g4⟩ := ET (P := P) (w := E.w) (ty := ty) (n := (E.h id).xs.length) (k := k) (a := some ad) (old := flat L0) ht hu hzv hzs zO hb1 hb2
       hf0 hfirst' hLl0 hLl'
      rw [← hte] at g4
      obtain ⟨n1, n2, n3⟩ := OA D2 id hlv c1 ((E.h id).xs ++ ys) (L0 ++ L') cap (Ap hL0 hL')
       (by
        show CellsAt c1 0 (szT P (E.h id).t) (L0 ++ L')
        rw [hte]
        exact EU hLs0 hLs' (fun p hp => g3 p (by simpa [AO hL', AO hL0] using hp)))
       (fun x hx => by
        show x.el P (E.h id).t = true
        rw [hte]
        exact (List.mem_append.1 hx).elim (hLe0 x) (hLe x))
       (by show (E.h id).xs.length < _; rw [List.length_append]; omega) (by simpa using g1) (by show cap * szT P (E.h id).t ≤ _; rw [hte]; exact Nat.le_of_eq g2.symm) hgr
      refine ⟨⟨pushW (drewW E.w) (.cells c1 (E.h id).t (0, 0)), E.I, upd E.m id ⟨E.w.heap.size, 0, cap⟩, upd E.h id { E.h id with xs := (E.h id).xs ++ ys, ex := false }, E.nx⟩, .slice (some ⟨E.w.heap.size, 0, none⟩) ((E.h id).xs.length + ys.length) cap, ?_, ?_, D1.trans n1, n2, D3.trans hE n3, g4, ?_⟩
      ·simp [hh]
      ·exact hnx.symm
      ·exact DS hid (by simp [upd]) (by simp [upd]) (Nat.le_refl _)
    ·cases h
  ·cases h
 ·cases h
theorem IQ {P : Program} {E : Env} {st st' : St} {t u e ty : Nat} {s ax z : AV} {us ux : Value} (hE : Ok P E) (hh : st.h = E.h) (hnx : st.nx = E.nx)
  (ht : elT P t = some e) (h : appendN P st u e s ax = some (z, st')) (hs : rep P E s us) (hx : rep P E ax ux) :
  st'.fr = st.fr ∧ Does P E (Builtin.append_ #[t, u] ty #[us, ux]) z st'.h st'.nx := by
 unfold appendN at h
 split at h
 ·rename_i k n
  split at h
  ·rename_i hc
   obtain ⟨hcnt, h0, hb, hr, hsz0⟩ := hc
   obtain ⟨z0, hz, h⟩ := Option.bind_eq_some_iff.1 h
   split at h
   ·rename_i he
    simp only [Option.some.injEq, Prod.mk.injEq] at h
    obtain ⟨rfl, rfl⟩ := h
    refine ⟨rfl, ?_⟩
    obtain ⟨v, hv, rfl⟩ := DF hz
    have hrv := CL (P := P) (E := E) v
    have hsz := CF hrv he
    obtain ⟨i, hi⟩ := Option.isSome_iff_exists.1 (Bf hv)
    have hby : byT P e = i.bytes := by simp [byT, hi]
    obtain ⟨m, rfl⟩ : ∃ m : Nat, n = m := ⟨n.toNat, zO⟩
    simp only [Int.toNat_natCast]
    simp only [rep] at hs hx
    obtain ⟨a, rfl⟩ := hs
    subst hx
    obtain ⟨D1, D2, D3⟩ := HI hE
    obtain ⟨kk, hu⟩ : ∃ kk, P.underlying u = some (.int kk) := by
     unfold cntT at hcnt
     split at hcnt
     ·rename_i kk hk; exact ⟨kk, hk⟩
     ·cases hcnt
    have hm : 0 < m := by omega
    have hbm : m * i.bytes ≤ 140737488355328 := by
     rw [hby, ← Int.natCast_mul] at hb; unfold reach at hb; omega
    have hrm : m ≤ 140737488355328 := by unfold reach at hr; omega
    have hroom : ∀ n w, (askRoom n).run P w = .ok () w := fun n w => by unfold askRoom; split <;> rfl
    have hcut : ∃ cap, m ≤ cap ∧ (choose (.appendCap m 0 e)).run P E.w = .ok cap (drewW E.w) := by
     refine ⟨(Question.appendCap m 0 e).cut (E.w.tape E.w.drawn (.appendCap m 0 e)), ?_, ?_⟩
     ·simp [Question.cut]
     ·simp [choose, Sem.run, Question.forced, drewW]
    obtain ⟨cap, hcap, hch⟩ := hcut
    have h1 : ¬ ((m : Nat) : Int) > IntKind.i64.max := by
     have h3 : IntKind.i64.max = 9223372036854775807 := by decide
     rw [h3]; omega
    have h2 : ¬ Builtin.nextslicecap m 0 * i.bytes > 2 ^ 48 := by
     have := Room.nextslicecap_le' hm
     have h4 : Builtin.nextslicecap m 0 * i.bytes ≤ 2 * m * i.bytes := Nat.mul_le_mul_right _ this
     rw [Nat.mul_assoc] at h4
     omega
    have hw64 : IntKind.i64.wrap (m : Int) = m := F7 zO zO
    have h5 : ¬ ((m : Int) < 0) := by omega
    have h6 : ¬ ((m : Int) * (i.bytes : Int) > 2 ^ 48) := by
     have : ((m * i.bytes : Nat) : Int) ≤ 140737488355328 := Int.ofNat_le.2 hbm
     rw [Int.natCast_mul] at this; omega
    have h7 : ¬ (m * szT P e = 0) := by
     intro h; rcases Nat.mul_eq_zero.1 h with h | h <;> omega
    have h8 : ¬ (m ≤ 0) := by omega
    have hfst : (Builtin.firstCells (szT P e) 0 (.slice a 0 0)).run P (drewW E.w) = .ok #[] (drewW E.w) := by
     cases a <;> simp [Builtin.firstCells, loadCells, loadCellsFrom]
    have hmk := CellsAt.mk_replicate (szT P e) m v hsz
    obtain ⟨n1, n2, n3⟩ := Dq D2 (#[] ++ Builtin.zeroCells v.cells m ++ Builtin.zeroCells v.cells (cap - m)) e (List.replicate m (ofVal v)) (List.replicate m v) cap false true
     (ER _ (CL v)) (by
      intro j w hj
      obtain ⟨q1, q2⟩ := hmk j w hj
      refine ⟨q1, fun l x hl => ?_⟩
      have q3 := q2 l x hl
      have hlt : 0 + j * szT P e + l < (Builtin.zeroCells v.cells m).size := by
       rcases Nat.lt_or_ge (0 + j * szT P e + l) (Builtin.zeroCells v.cells m).size with h | h
       ·exact h
       ·have : (Builtin.zeroCells v.cells m)[0 + j * szT P e + l]? = some x := by rw [← q3]; simp [Builtin.zeroCells, hsz]
        rw [Array.getElem?_eq_none h] at this; cases this
      rw [Array.empty_append, Array.getElem?_append_left hlt, ← q3]
      simp [Builtin.zeroCells, hsz])
     (fun x hx => by rw [List.eq_of_mem_replicate hx]; exact he) (by simpa using hcap) zS (by
      simp only [Array.empty_append, Array.size_append, Builtin.zeroCells, Array.size_map, Array.size_range, hsz]
      rw [← Nat.add_mul]; exact Nat.mul_le_mul_right _ zO)
    refine ⟨⟨pushW (drewW E.w) (.cells (#[] ++ Builtin.zeroCells v.cells m ++ Builtin.zeroCells v.cells (cap - m)) e (0, 0)), E.I, upd E.m E.nx ⟨E.w.heap.size, 0, cap⟩, upd E.h E.nx ⟨e, List.replicate m (ofVal v), false, true, true⟩, E.nx + 1⟩, .slice (some ⟨E.w.heap.size, 0, none⟩) m cap, ?_, ?_, D1.trans n1, n2, D3.trans hE n3, ?_, ?_⟩
    ·simp [St.new, hh, hnx]
    ·simp [St.new, hnx]
    ·simp only [Builtin.append_, List.getElem?_toArray, List.getElem?_cons_zero, List.getElem?_cons_succ, Sem.run_bind, AK (BB ht), AK hu, Result.andThen_ok, A4 hi, Sem.run_pure, if_true, asInt, asIntOf, hw64, h5, if_false, CS hi, h6, Int.toNat_natCast, Nat.zero_add, h8, Bool.not_true, Bool.false_eq_true, h7]
     simp only [h1, false_and, if_false, CS hi, h2, if_true, hch, hroom, hfst, DR hv, Sem.run_bind, Result.andThen_ok, Sem.run_pure, Bg]
     rfl
    ·rw [hnx]; exact DS (Nat.lt_succ_self _) (by simp [upd]) (by simp [upd]) (Nat.le_refl _)
   ·cases h
  ·cases h
 ·cases h
theorem Lv {P : Program} {E : Env} {st st' : St} {t u e ty : Nat} {s ax z : AV} {ys : List AV} {us ux : Value} (hE : Ok P E) (hh : st.h = E.h) (hnx : st.nx = E.nx)
  (ht : elT P t = some e) (hu : elT P u = some e) (hzok : zokT P e = true) (hw : winA st e (cutA s ax) = some ys) (h : copyA P st e s ys = some (z, st')) (hs : rep P E s us) (hx : rep P E ax ux) :
  st'.fr = st.fr ∧ Does P E (Builtin.copy_ #[t, u] ty #[us, ux]) z st'.h st'.nx := by
 unfold copyA at h
 split at h
 ·rename_i id n off len
  split at h
  ·rename_i hc
   obtain ⟨⟨z1, st1⟩, ha, h⟩ := Option.bind_eq_some_iff.1 h
   split at h
   ·rename_i hlv
    simp only [Option.some.injEq, Prod.mk.injEq] at h
    obtain ⟨rfl, rfl⟩ := h
    obtain ⟨hlv, hn⟩ := hlv
    rw [hh] at hlv hn
    simp only [rep] at hs
    obtain ⟨hid, hnl, ad, k, rfl, hs⟩ := hs
    obtain ⟨_, hk, hkad⟩ := hs hlv hn
    have hle := (hE.blk id hlv).le
    have hs0 : rep P E (.ref id n off 0) (.slice (some ad) 0 k) := by
     simp only [rep]
     exact ⟨hid, hnl, ad, k, rfl, fun _ _ => ⟨zO, hk, hkad⟩⟩
    obtain ⟨ux', hx', hcut⟩ : ∃ ux', rep P E (cutA (.ref id n off len) ax) ux' ∧ ∀ xa m xk, ux' = .slice xa m xk → m ≤ len → ∃ xa0 l k0, ux = .slice xa0 l k0 ∧ Nat.min l len = m ∧
      ∀ cs, (Builtin.firstCells (szT P e) m (.slice xa m xk)).run P E.w = .ok cs E.w → (Builtin.firstCells (szT P e) m (.slice xa0 l k0)).run P E.w = .ok cs E.w := by
     have same : cutA (.ref id n off len) ax = ax → ∃ ux', rep P E (cutA (.ref id n off len) ax) ux' ∧ ∀ xa m xk, ux' = .slice xa m xk → m ≤ len → ∃ xa0 l k0, ux = .slice xa0 l k0 ∧ Nat.min l len = m ∧
       ∀ cs, (Builtin.firstCells (szT P e) m (.slice xa m xk)).run P E.w = .ok cs E.w → (Builtin.firstCells (szT P e) m (.slice xa0 l k0)).run P E.w = .ok cs E.w := fun hsame =>
      ⟨ux, by rw [hsame]; exact hx, fun xa m xk he hm => ⟨xa, m, xk, he, Nat.min_eq_left hm, fun _ h => h⟩⟩
     cases ax with
     | ref id2 n2 off2 len2 =>
      by_cases hlen : len2 ≤ len
      ·exact same (by simp [cutA, hlen])
      ·simp only [rep] at hx
       obtain ⟨hid2, hnl2, ad2, k2, rfl, hx⟩ := hx
       refine ⟨.slice (some ad2) len k2, ?_, fun xa m xk he hm => ?_⟩
       ·simp only [cutA, if_neg hlen, rep]
        exact ⟨hid2, hnl2, ad2, k2, rfl, fun q1 q2 => ⟨by have := (hx q1 q2).1; omega, (hx q1 q2).2⟩⟩
       ·injection he with e1 e2 e3
        subst e1; subst e2; subst e3
        exact ⟨_, len2, _, rfl, Nat.min_eq_right zO, fun _ h => h⟩
     | sl t' xs' sp' ex' =>
      cases len with
      | succ l => exact same (by simp [cutA])
      | zero =>
       simp only [rep] at hx
       obtain ⟨a2, k2, rfl, _⟩ := hx
       refine ⟨.slice none 0 0, by simp [cutA, rep], fun xa m xk he hm => ?_⟩
       injection he with e1 e2 e3
       subst e1; subst e2; subst e3
       refine ⟨a2, xs'.length, k2, rfl, Nat.min_eq_right (Nat.zero_le _), fun cs h => ?_⟩
       rw [← h]
       cases a2 <;> simp [Builtin.firstCells, loadCells, loadCellsFrom]
     | _ => exact same rfl
    obtain ⟨g1, E', r, g2, g3, g4, g5, g6, g7, g8⟩ := Ff (ty := ty) hE hh hnx ht hu hzok hw ha hs0 hx'
    refine ⟨g1, E', .int .i64 ys.length, g2, g3, g4, g5, g6, ?_, by simp [rep]⟩
    obtain ⟨zv, hzv, hzs⟩ := Fe hzok
    obtain ⟨i, hi⟩ := Option.isSome_iff_exists.1 (Bf hzv)
    obtain ⟨L, xa, xk, rfl, hL, hLs, hLe, hfirst⟩ := DG hE hh hw hx'
    obtain ⟨xa0, l0, k0, rfl, hmin, hf2⟩ := hcut xa _ xk rfl hc.2
    have hfirst2 := hf2 _ hfirst
    have hin : 0 + ys.length ≤ k := by omega
    have e0 : ad.add (0 * szT P e) = ad := by simp [Addr.add]
    simp only [Builtin.append_, List.getElem?_toArray, List.getElem?_cons_zero, List.getElem?_cons_succ, Sem.run_bind, AK (BB ht), AK (BB hu), Result.andThen_ok, A4 hi, Sem.run_pure, Builtin.lenOf, Bool.false_eq_true, if_false, hin, if_true, Bool.not_false] at g7
    rw [hfirst] at g7
    simp only [Result.andThen_ok, Sem.run_bind, e0] at g7
    have hst : (storeCells ad (flat L)).run P E.w = .ok () E'.w := by
     revert g7
     cases (storeCells ad (flat L)).run P E.w <;> simp
    simp only [Builtin.copy_, List.getElem?_toArray, List.getElem?_cons_zero, List.getElem?_cons_succ, Sem.run_bind, AK (BB ht), Result.andThen_ok, A4 hi, Sem.run_pure, Builtin.lenOf, hmin]
    rw [hfirst2]
    simp only [Result.andThen_ok, Sem.run_bind, hst]
    rfl
   ·cases h
  ·cases h
 ·cases h
theorem Fg : ∀ {ys : List AV} {s : List UInt8}, bytesOf ys = some s → ∃ ns : List Int, ys = ns.map (AV.int .u8) ∧ s = ns.map fun n => UInt8.ofNat n.toNat
 | [], s, h => by cases h; exact ⟨[], rfl, rfl⟩
 | y :: ys, s, h => by
  cases y with
  | int k n =>
   cases k with
   | u8 =>
    simp only [bytesOf, Option.map_eq_some_iff] at h
    obtain ⟨s', h1, rfl⟩ := h
    obtain ⟨ns, rfl, rfl⟩ := Fg h1
    exact ⟨n :: ns, rfl, rfl⟩
   | _ => simp [bytesOf] at h
  | _ => simp [bytesOf] at h
theorem Ie {P : Program} {E : Env} {k : IntKind} : ∀ {ns : List Int} {vs : List Value}, repL P E (ns.map (AV.int k)) vs → vs = ns.map (Value.int k)
 | [], vs, h => by simpa [repL] using h
 | n :: ns, vs, h => by
  simp only [List.map_cons, repL] at h
  obtain ⟨v, us, rfl, h1, h2⟩ := h
  rw [Be h1, Ie h2]; rfl
theorem If {k : IntKind} : ∀ ns : List Int, flat (ns.map (Value.int k)) = ns.map (Value.int k)
 | [] => rfl
 | n :: ns => by
  have := If (k := k) ns
  simp only [flat, List.map_cons, List.flatMap_cons] at this ⊢
  rw [this]; rfl
theorem R0 {P : Program} {t : Nat} (h : u8T P t = true) : P.underlying t = some (.int .u8) ∧ szT P t = 1 := by
 simp only [u8T, Bool.and_eq_true, beq_iff_eq] at h
 refine ⟨?_, h.2⟩
 have h1 := h.1
 split at h1
 ·assumption
 ·cases h1
theorem Lw {P : Program} {E : Env} {st : St} {src dst : TypeId} {ax z : AV} {u : Value} (hE : Ok P E) (hh : st.h = E.h) (hs : (P.underlying src).isSome) (h : conA P st src dst ax = some z) (hx : rep P E ax u) :
  ∃ r, (convert src dst u).run P E.w = .ok r E.w ∧ rep P E z r := by
 unfold conA at h
 split at h
 ·split at h
  ·rename_i hst
   obtain ⟨e, he, h⟩ := Option.bind_eq_some_iff.1 h
   split at h
   ·rename_i h8
    obtain ⟨ys, hw, h⟩ := Option.bind_eq_some_iff.1 h
    obtain ⟨s, hb, rfl⟩ := Option.map_eq_some_iff.1 h
    obtain ⟨L, a, k, rfl, hL, _, _, hf⟩ := DG hE hh hw hx
    obtain ⟨ns, rfl, rfl⟩ := Fg hb
    obtain ⟨hu, hz⟩ := R0 h8
    have hLn := Ie hL
    subst hLn
    rw [If, hz] at hf
    refine ⟨.string ⟨(ns.map fun n => UInt8.ofNat n.toNat).toArray⟩, ?_, by simp [rep]⟩
    rw [run_convert_bytes_string E.w src dst e a _ k (BB he) hu (Fd hst)]
    cases a with
    | none =>
     have hn : ns = [] := by
      have hf' : (.ok #[] E.w : Result (Array Value)) = .ok (ns.map (Value.int .u8)).toArray E.w := hf
      injection hf' with h1 _
      have h2 := congrArg Array.size h1
      simp at h2
      exact List.length_eq_zero_iff.1 h2.symm
     subst hn
     simp [Conv.bytesToString, Sem.run_pure]
     rfl
    | some a =>
     rw [run_bytesToString E.w a _ k ns (by simpa [Builtin.firstCells] using hf), foldl_push_bytes]
     simp [ByteArray.empty, ByteArray.emptyWithCapacity]
     rfl
   ·cases h
  ·cases h
 ·exact Ls hs h hx
theorem Ig : ∀ (l : List Value) (A : Array Value) (off k : Nat), off + k + l.length ≤ A.size →
  ((l.zipIdx k).foldl (fun cs (p : Value × Nat) => cs.setIfInBounds (off + p.2) p.1) A).toList = A.toList.take (off + k) ++ l ++ A.toList.drop (off + k + l.length)
 | [], A, off, k, _ => by simp
 | v :: l, A, off, k, h => by
  simp only [List.length_cons] at h
  rw [List.zipIdx_cons, List.foldl_cons, Ig l _ off (k + 1) zW]
  apply List.ext_getElem?
  intro p
  have hA : A.toList.length = A.size := by simp
  have h1 := BZ (l := (A.setIfInBounds (off + k) v).toList) (ns := l) (o := off + (k + 1)) zW p
  have h2 := BZ (l := A.toList) (ns := v :: l) (o := off + k) zW p
  rw [h1, h2]
  simp only [List.length_cons, Array.toList_setIfInBounds]
  by_cases c1 : p < off + k
  ·rw [if_pos zO, if_pos c1, List.getElem?_set, if_neg zO]
  ·rw [if_neg c1]
   by_cases c2 : p = off + k
   ·subst c2
    rw [if_pos zO, if_pos zO, List.getElem?_set, if_pos rfl, if_pos zO]
    simp
   ·rw [if_neg zO]
    by_cases c3 : p < off + (k + 1) + l.length
    ·rw [if_pos c3, if_pos zO]
     rw [show p - (off + k) = (p - (off + (k + 1))) + 1 by omega, List.getElem?_cons_succ]
    ·rw [if_neg c3, if_neg zO, List.getElem?_set, if_neg zO]
theorem Ih {place : Nat → Option (Nat × Nat)} {cells : Array Value} {i off size : Nat} {v : Value} {rest : List (Nat × Value)} (hp : place i = some (off, size)) (hv : v.cells.size = size) (hle : off + size ≤ cells.size) :
  Instr.fill place cells ((i, v) :: rest) = Instr.fill place (cells.toList.take off ++ v.cells.toList ++ cells.toList.drop (off + size)).toArray rest := by
 simp only [Instr.fill, hp]
 rw [if_neg (by simp [hv]; omega)]
 congr 1
 have h := Ig v.cells.toList cells off 0 (by simp [hv]; omega)
 apply Array.ext'
 rw [← Array.foldl_toList, Array.toList_zipIdx]
 simp only [Nat.add_zero, Array.length_toList, hv] at h
 exact h
theorem Gc {P : Program} {E : Env} {t : Nat} {fs : Array Field} (ht : P.underlying t = some (.struct fs)) : ∀ (parts : List (Nat × AV)) (vals : List (Nat × Value)) (cs cs' : List AV) (vs : List Value),
  fillA P t cs parts = some cs' → repL P E cs vs → parts.length = vals.length → (∀ (k : Nat) (p : Nat × AV) (q : Nat × Value), parts[k]? = some p → vals[k]? = some q → p.1 = q.1 ∧ rep P E p.2 q.2) →
  ∃ vs', Instr.fill ((fs.map fun f => (f.offset, szT P f.type))[·]?) vs.toArray vals = some vs'.toArray ∧ repL P E cs' vs'
 | [], vals, cs, cs', vs, h, hr, hl, _ => by
  cases vals with
  | nil => simp only [fillA, Option.some.injEq] at h; subst h; exact ⟨vs, rfl, hr⟩
  | cons _ _ => simp at hl
 | (i, x) :: parts, vals, cs, cs', vs, h, hr, hl, hp => by
  cases vals with
  | nil => simp at hl
  | cons q vals =>
   obtain ⟨hi, hx⟩ := hp 0 _ _ rfl rfl
   obtain ⟨j, v⟩ := q
   simp only at hi hx
   subst hi
   simp only [fillA] at h
   split at h
   ·rename_i off u hf
    split at h
    ·rename_i hc
     have hvs := CF hx hc.1
     have hxl := Cf hx (by rw [CI hc.1, hvs])
     have hf' : (fs.map fun f => (f.offset, szT P f.type))[i]? = some (off, szT P u) := by
      simp only [fieldOff, ht] at hf
      rw [Array.getElem?_map]
      cases hfi : fs[i]? with
      | none => rw [hfi] at hf; simp at hf
      | some f => rw [hfi] at hf; simp only [Option.map_some, Option.some.injEq, Prod.mk.injEq] at hf ⊢; obtain ⟨rfl, rfl⟩ := hf; exact ⟨rfl, rfl⟩
     have hle : off + szT P u ≤ vs.toArray.size := by simp [AO hr]; exact hc.2
     rw [Ih hf' hvs hle]
     have hset : setCells cs off x.cells = cs.take off ++ x.cells ++ cs.drop (off + szT P u) := by
      rw [ES _ _ _ (by rw [CI hc.1]; exact hc.2), CI hc.1]
     refine Gc ht parts vals _ cs' _ h ?_ (by simpa using hl) fun k p q h1 h2 => hp (k + 1) p q (by simpa using h1) (by simpa using h2)
     rw [hset]
     exact Ap (Ap (BV hr off) hxl) (BO hr _)
    ·cases h
   ·cases h
theorem HJ {P : Program} {w : World} : ∀ (fs : List Field), (∀ f ∈ fs, (P.info? f.type).isSome) → (fs.mapM fun f => do pure (f.offset, ← sizeOf f.type) : Sem (List (Nat × Nat))).run P w = .ok (fs.map fun f => (f.offset, szT P f.type)) w
 | [], _ => by simp
 | f :: fs, h => by
  simp only [List.mapM_cons, Sem.run_bind, D9 (h f zS), Result.andThen_ok, Sem.run_pure, HJ fs (fun g hg => h g (by simp [hg])), List.map_cons]
theorem KS {P : Program} {E : Env} {t : Nat} {cs cs' : List AV} {parts : List (Nat × AV)} {vals : Array (Nat × Value)} (hin : infosT P t = true) (hz : zeroA P t = some (.agg cs)) (h : fillA P t cs parts = some cs')
  (hl : parts.length = vals.size) (hp : ∀ (k : Nat) (p : Nat × AV) (q : Nat × Value), parts[k]? = some p → vals[k]? = some q → p.1 = q.1 ∧ rep P E p.2 q.2) :
  ∃ r, (Instr.build t vals).run P E.w = .ok r E.w ∧ rep P E (.agg cs') r := by
 unfold infosT at hin
 split at hin
 ·rename_i fs ht
  obtain ⟨v, hv, hzv⟩ := DF hz
  have hr : rep P E (.agg cs) v := by rw [hzv]; exact CL v
  simp only [rep] at hr
  obtain ⟨vs, rfl, hvs⟩ := hr
  obtain ⟨vs', h1, h2⟩ := Gc ht parts vals.toList cs cs' vs h hvs (by simpa using hl) (fun k p q h1 h2 => hp k p q h1 (by simpa using h2))
  refine ⟨.agg vs'.toArray, ?_, by simp only [rep]; exact ⟨vs', rfl, h2⟩⟩
  have hpl := HJ (P := P) (w := E.w) fs.toList (fun f hf => by
   have := List.all_eq_true.1 hin f hf; simpa using this)
  have hpl' : (fs.mapM fun f => do pure (f.offset, ← sizeOf f.type) : Sem (Array (Nat × Nat))).run P E.w = .ok (fs.map fun f => (f.offset, szT P f.type)) E.w := by
   rw [Array.mapM_eq_mapM_toList]
   simp only [Sem.run_map, hpl, Result.andThen_ok]
   congr 1
   apply Array.ext'; simp
  simp only [Instr.build, Sem.run_bind, DR hv, AK ht, Result.andThen_ok, Sem.run_map, Sem.run_pure, hpl']
  simp only [Value.cells, h1, Sem.run_pure]
 ·cases hin
theorem Fh {P : Program} {E : Env} {S : Nat} : ∀ (i : Nat) (parts : List (Nat × AV)) (vals : List (Nat × Value)) (xs : List AV) (A : List Value), partsA i parts = some xs → parts.length = vals.length →
  (∀ (k : Nat) (p : Nat × AV) (q : Nat × Value), parts[k]? = some p → vals[k]? = some q → p.1 = q.1 ∧ rep P E p.2 q.2 ∧ q.2.cells.size = S) → (i + parts.length) * S ≤ A.length →
  ∃ L, repL P E xs L ∧ (∀ v ∈ L, v.cells.size = S) ∧ Instr.fill (fun i => some (i * S, S)) A.toArray vals = some (A.take (i * S) ++ flat L ++ A.drop ((i + parts.length) * S)).toArray
 | i, [], vals, xs, A, h, hl, _, _ => by
  cases vals with
  | nil => simp only [partsA, Option.some.injEq] at h; subst h; exact ⟨[], by simp [repL], zS, by simp [Instr.fill, flat]⟩
  | cons _ _ => simp at hl
 | i, (j, x) :: parts, vals, xs, A, h, hl, hp, hA => by
  cases vals with
  | nil => simp at hl
  | cons q vals =>
   obtain ⟨hi, hx, hS⟩ := hp 0 _ _ rfl rfl
   obtain ⟨j', v⟩ := q
   simp only at hi hx hS
   subst hi
   simp only [partsA] at h
   split at h
   ·rename_i hij
    subst hij
    simp only [Option.map_eq_some_iff] at h
    obtain ⟨ys, hys, rfl⟩ := h
    simp only [List.length_cons] at hA hl
    have hA' : (i + (parts.length + 1)) * S = i * S + S + parts.length * S := by rw [Nat.add_mul, Nat.add_mul]; omega
    rw [hA'] at hA
    have hsl := A3 (l := A) (ns := v.cells.toList) (o := i * S) (by simp [hS]; omega)
    simp only [Array.length_toList, hS] at hsl
    obtain ⟨L, h1, h2, h3⟩ := Fh (i + 1) parts vals ys (A.take (i * S) ++ v.cells.toList ++ A.drop (i * S + S)) hys zO (fun k p q g1 g2 => hp (k + 1) p q (by simpa using g1) (by simpa using g2))
     (by rw [hsl, Nat.add_mul, Nat.add_mul]; omega)
    refine ⟨v :: L, by simp only [repL]; exact ⟨v, L, rfl, hx, h1⟩, fun u hu => ?_, ?_⟩
    ·rcases List.mem_cons.1 hu with rfl | hu
     ·exact hS
     ·exact h2 u hu
    ·rw [Ih rfl hS zW]
     simp only
     rw [h3]
     congr 2
     have e1 : (i + 1) * S = i * S + S := by rw [Nat.add_mul]; omega
     have e2 : (i + 1 + parts.length) * S = i * S + S + parts.length * S := by rw [Nat.add_mul, Nat.add_mul]; omega
     have hvl : v.cells.toList.length = S := by simpa using hS
     have htk : (A.take (i * S)).length = i * S := by rw [List.length_take]; omega
     have d1 : (A.take (i * S) ++ v.cells.toList ++ A.drop (i * S + S)).take (i * S + S) = A.take (i * S) ++ v.cells.toList := by
      rw [List.take_append_of_le_length (by rw [List.length_append]; omega), List.take_of_length_le (by rw [List.length_append]; omega)]
     have d2 : (A.take (i * S) ++ v.cells.toList ++ A.drop (i * S + S)).drop (i * S + S + parts.length * S) = A.drop (i * S + S + parts.length * S) := by
      rw [List.drop_append, List.drop_eq_nil_of_le (by rw [List.length_append]; omega), List.nil_append, List.drop_drop, List.length_append]
      congr 1; omega
     rw [e1, e2, d1, d2, List.length_cons, hA']
     simp [flat]
   ·cases h
theorem GA {P : Program} {E : Env} {t e len : Nat} {parts : List (Nat × AV)} {vals : Array (Nat × Value)} {xs : List AV} (hE : Ok P E) (ht : elT P t = some e) (hlim : len * szT P e ≤ 16777216) (hzok : zokT P e = true)
  (h : partsA 0 parts = some xs) (hxs : xs.length = len) (hel : ∀ x ∈ xs, x.el P e = true) (hl : parts.length = vals.size)
  (hp : ∀ (k : Nat) (p : Nat × AV) (q : Nat × Value), parts[k]? = some p → vals[k]? = some q → p.1 = q.1 ∧ rep P E p.2 q.2) :
  Does P E (Instr.buildSlice t len vals) (.sl e xs [] true) E.h E.nx := by
 obtain ⟨zv, hzv, hzs⟩ := Fe hzok
 obtain ⟨i, hi⟩ := Option.isSome_iff_exists.1 (Bf hzv)
 have hmem : ∀ (i : Nat) (parts : List (Nat × AV)) (xs : List AV), partsA i parts = some xs → xs = parts.map (·.2) := by
  intro i parts
  induction parts generalizing i with
  | nil => intro xs h; simp only [partsA, Option.some.injEq] at h; simp [← h]
  | cons p parts ih =>
   intro xs h
   obtain ⟨j, x⟩ := p
   simp only [partsA] at h
   split at h
   ·simp only [Option.map_eq_some_iff] at h
    obtain ⟨ys, hys, rfl⟩ := h
    simp [ih _ _ hys]
   ·cases h
 have hx := hmem 0 parts xs h
 obtain ⟨A, hA⟩ : ∃ A : List Value, A.toArray = (if len * szT P e = 0 then (Array.range (len * szT P e)).map ((#[] : Array Value)[· % 0]!) else (Array.range (len * szT P e)).map (zv.cells[· % zv.cells.size]!)) := ⟨_, Array.toArray_toList⟩
 have hAl : A.length = len * szT P e := by
  have : A.toArray.size = len * szT P e := by rw [hA]; split <;> simp
  simpa using this
 have hpl : parts.length = len := by rw [← hxs, hx]; simp
 obtain ⟨L, h1, h2, h3⟩ := Fh (P := P) (E := E) (S := szT P e) 0 parts vals.toList xs A h (by simpa using hl) (fun k p q g1 g2 => by
   obtain ⟨a, b⟩ := hp k p q g1 (by simpa using g2)
   refine ⟨a, b, CF b (hel _ ?_)⟩
   rw [hx]; exact List.mem_map_of_mem (List.mem_of_getElem? g1)) (by rw [Nat.zero_add, hpl, hAl]; exact Nat.le_refl _)
 have hfl : A.take (0 * szT P e) ++ flat L ++ A.drop ((0 + parts.length) * szT P e) = flat L := by
  rw [Nat.zero_add, hpl, ← hAl, List.drop_length]; simp
 rw [hfl] at h3
 obtain ⟨n1, n2, n3⟩ := Rz hE (.cells (flat L).toArray e (0, 0))
 refine ⟨_, .slice (some ⟨E.w.heap.size, 0, none⟩) len len, ?_, ?_, n1, n2, n3, ?_, ?_⟩
 ·rfl
 ·rfl
 ·have hcells : Instr.fill (fun i => some (i * szT P e, szT P e)) (if len * szT P e = 0 then (Array.range (len * szT P e)).map ((#[] : Array Value)[· % 0]!) else (Array.range (len * szT P e)).map (zv.cells[· % zv.cells.size]!)) vals.toList = some (flat L).toArray := by
   rw [← hA]; exact h3
  simp only [Instr.buildSlice, Sem.run_bind, AK (BB ht), Result.andThen_ok, A4 hi]
  rw [if_neg zO]
  by_cases h0 : len * szT P e = 0
  ·rw [if_pos h0] at hcells
   simp only [h0] at hcells ⊢
   simp only [if_true, Sem.run_bind, Sem.run_pure, Result.andThen_ok]
   have hc' : Instr.fill (fun i => some (i * szT P e, szT P e)) ((Array.range 0).map ((#[] : Array Value)[· % (#[] : Array Value).size]!)) vals.toList = some (flat L).toArray := hcells
   rw [hc']
   simp [Bg]
  ·rw [if_neg h0] at hcells
   simp only [h0, if_false, Sem.run_bind, DR hzv, Result.andThen_ok, Sem.run_pure, hcells, Bg]
 ·simp only [rep]
  refine ⟨_, len, by rw [hxs], by simp [hxs], fun _ => by simp [hxs], by simpa using hel, L, [], Ax n1 _ _ h1, by simp [repL], fun _ => ⟨E.w.heap.size, 0, (flat L).toArray, (e, (0, 0)), rfl, .inr rfl, Es, ?_⟩⟩
  rw [List.append_nil]
  exact CellsAt.mk_flat _ L h2
theorem GB {P : Program} {E : Env} {t e : Nat} (hE : Ok P E) (ht : elT P t = some e) (hzok : zokT P e = true) :
  Does P E (Instr.buildSlice t 0 #[]) (.ref E.nx 0 0 0) (upd E.h E.nx ⟨e, [], true, true, true⟩) (E.nx + 1) := by
 obtain ⟨zv, hzv, hzs⟩ := Fe hzok
 obtain ⟨i, hi⟩ := Option.isSome_iff_exists.1 (Bf hzv)
 obtain ⟨n1, n2, n3⟩ := Dq hE #[] e [] [] 0 true true (by simp [repL]) (by intro i v h; simp at h) zS (Nat.le_refl _) (fun _ => rfl) zS
 refine ⟨_, .slice (some ⟨E.w.heap.size, 0, none⟩) 0 0, ?_, ?_, n1, n2, n3, ?_, DS zS (by simp [upd]) (by simp [upd]) (Nat.le_refl _)⟩
 ·rfl
 ·rfl
 ·simp only [Instr.buildSlice, Sem.run_bind, AK (BB ht), Result.andThen_ok, A4 hi, Nat.zero_mul]
  simp [Instr.fill, Bg, Array.range]
def OpDoes (P : Program) (E : Env) (st' : St) (s : Sem Next) (x : AV) : Prop :=
 ∃ E' n u, E'.h = st'.h ∧ E'.nx = st'.nx ∧ E.Le E' ∧ Ok P E' ∧ Goes P E E' ∧ s.run P E.w = .ok n E'.w ∧ (n = .value u ∨ (n = .skip ∧ u = undef)) ∧ rep P E' x u
theorem OpDoes.of_does {P : Program} {E : Env} {st' : St} {s : Sem Value} {x : AV} (h : Does P E s x st'.h st'.nx) : OpDoes P E st' (do pure (.value (← s))) x := by
 obtain ⟨E', r, h1, h2, h3, h4, h5, h6, h7⟩ := h
 exact ⟨E', .value r, r, h1, h2, h3, h4, h5, by simp [h6], .inl rfl, h7⟩
theorem OpDoes.same {P : Program} {E : Env} {st : St} {s : Sem Value} {x : AV} (hE : Ok P E) (hh : st.h = E.h) (hnx : st.nx = E.nx) (h : ∃ r, s.run P E.w = .ok r E.w ∧ rep P E x r) : OpDoes P E st (do pure (.value (← s))) x :=
 .of_does (by rw [hh, hnx]; exact Does.same hE h)
theorem Ii {P : Program} {E : Env} {st : St} {a : Act} (hf : ∀ t, rep P E (st.fr t) (a.tmps.getD t undef)) (parts : Array (Nat × Operand)) :
  (parts.toList.map fun p => (p.1, st.ev p.2)).length = (parts.map fun (i, x) => (i, a.eval x)).size ∧
  ∀ (k : Nat) (p : Nat × AV) (q : Nat × Value), (parts.toList.map fun p => (p.1, st.ev p.2))[k]? = some p → (parts.map fun (i, x) => (i, a.eval x))[k]? = some q → p.1 = q.1 ∧ rep P E p.2 q.2 := by
 refine ⟨zS, fun k p q h1 h2 => ?_⟩
 rw [List.getElem?_map] at h1
 rw [Array.getElem?_map] at h2
 cases hk : parts[k]? with
 | none => rw [hk] at h2; simp at h2
 | some y =>
  have : parts.toList[k]? = some y := by rw [Array.getElem?_toList]; exact hk
  rw [this] at h1; rw [hk] at h2
  simp only [Option.map_some, Option.some.injEq] at h1 h2
  subst h1; subst h2
  exact ⟨rfl, HG hf y.2⟩
theorem OB {P : Program} {w : World} {ts : Array TypeId} {ty : TypeId} {k : IntKind} {a b : Int} : (Builtin.max_ ts ty #[.int k a, .int k b]).run P w = .ok (.int k (if b > a then b else a)) w := by
 simp [Builtin.max_, Builtin.max2]
theorem OC {P : Program} {w : World} {ts : Array TypeId} {ty : TypeId} {k : IntKind} {a b : Int} : (Builtin.min_ ts ty #[.int k a, .int k b]).run P w = .ok (.int k (if b < a then b else a)) w := by
 simp [Builtin.min_, Builtin.min2]
theorem DT {P : Program} {s f off u : Nat} (h : fieldOff P s f = some (off, u)) : ∃ fs fd, P.underlying s = some (.struct fs) ∧ fs[f]? = some fd ∧ fd.offset = off ∧ fd.type = u := by
 unfold fieldOff at h
 split at h
 ·rename_i fs hs
  simp only [Option.map_eq_some_iff, Prod.mk.injEq] at h
  obtain ⟨fd, h1, h2, h3⟩ := h
  exact ⟨fs, fd, hs, h1, h2, h3⟩
 ·cases h
theorem Gd {P : Program} {w : World} {s f : Nat} {fs : Array Field} {fd : Field} (hfs : P.underlying s = some (.struct fs)) (hfd : fs[f]? = some fd) (hu : szT P fd.type ≠ 0) (ad : Addr) :
  (Instr.fieldAt s (.pointer (some ad)) f).run P w = .ok (.pointer (some (ad.add fd.offset))) w := by
 have hin : (P.info? fd.type).isSome := by
  unfold szT at hu
  cases hi : P.info? fd.type with
  | none => rw [hi] at hu; simp at hu
  | some i => rfl
 simp only [Instr.fieldAt, Sem.run_bind, AK hfs, Result.andThen_ok, hfd, Instr.sureAddr, Sem.run_pure, fieldPlace, D9 hin, hu, if_false]
set_option maxHeartbeats 1600000 in
theorem JT {P : Program} {E : Env} {st st' : St} {a : Act} {o : Oper} {x : AV} (hE : Ok P E) (hh : st.h = E.h) (hnx : st.nx = E.nx) (hf : ∀ t, rep P E (st.fr t) (a.tmps.getD t undef)) (h : evalOp P st o.op = some (x, st')) :
  st'.fr = st.fr ∧ OpDoes P E st' (execOp a.eval o) x := by
 have ev := fun y => HG hf y
 obtain ⟨dst, op, type, pos, after, guard⟩ := o
 unfold evalOp at h
 simp only at h
 unfold execOp
 split at h <;> simp only
 ·-- move
  cases h; exact ⟨rfl, E, .value _, _, hh.symm, hnx.symm, .refl E, hE, .refl P E, rfl, .inl rfl, ev _⟩
 ·-- assign
  cases h; exact ⟨rfl, E, .value _, _, hh.symm, hnx.symm, .refl E, hE, .refl P E, rfl, .inl rfl, ev _⟩
 ·-- pick
  rename_i c p q
  split at h
  ·rename_i t ht
   cases h
   have hc := ev c
   rw [ht] at hc
   have hc' := Dp hc
   refine ⟨rfl, E, .value (if t then a.eval p else a.eval q), _, hh.symm, hnx.symm, .refl E, hE, .refl P E, by simp [hc', asBool], .inl rfl, ?_⟩
   split <;> exact ev _
  ·cases h
 ·-- alloc
  rename_i e
  obtain ⟨z, hz, h'⟩ := Option.bind_eq_some_iff.1 h
  clear h
  have h := h'
  clear h'
  split at h
  ·rename_i he
   cases h
   obtain ⟨v, hv, rfl⟩ := DF hz
   have := Ic hE he (CL v)
   refine ⟨rfl, .of_does ?_⟩
   obtain ⟨E', r, g1, g2, g3, g4, g5, g6, g7⟩ := this
   refine ⟨E', r, by simp [g1, St.new, hh, hnx], by simp [g2, St.new, hnx], g3, g4, g5, ?_, by simpa [hnx] using g7⟩
   simp only [Instr.alloc, Sem.run_bind, DR hv, Result.andThen_ok]
   simpa using g6
  ·cases h
 ·-- box
  rename_i e y
  split at h
  ·rename_i he
   cases h
   have := Ic hE he (ev y)
   refine ⟨rfl, .of_does ?_⟩
   obtain ⟨E', r, g1, g2, g3, g4, g5, g6, g7⟩ := this
   exact ⟨E', r, by simp [g1, St.new, hh, hnx], by simp [g2, St.new, hnx], g3, g4, g5, g6, by simpa [hnx] using g7⟩
  ·cases h
 ·-- build
  rename_i t parts
  split at h
  ·rename_i hin
   split at h
   ·rename_i cs hz
    simp only [Option.map_eq_some_iff, Prod.mk.injEq] at h
    obtain ⟨cs', hfill, rfl, rfl⟩ := h
    obtain ⟨p1, p2⟩ := Ii hf parts
    exact ⟨rfl, .same hE hh hnx (KS hin hz hfill p1 p2)⟩
   ·cases h
  ·cases h
 ·-- buildSlice
  rename_i t len parts
  obtain ⟨e, he, h'⟩ := Option.bind_eq_some_iff.1 h
  clear h
  have h := h'
  clear h'
  split at h
  ·rename_i hl
   split at h
   ·rename_i h0
    obtain ⟨h0, _⟩ := h0
    subst h0
    split at h
    ·rename_i hp
     cases h
     have : parts = #[] := Array.ext' (by simpa using hp)
     subst this
     obtain ⟨E', r, g1, g2, g3, g4, g5, g6, g7⟩ := GB hE he hl.2
     exact ⟨rfl, .of_does ⟨E', r, by simp [g1, St.new, hh, hnx], by simp [g2, St.new, hnx], g3, g4, g5, by simpa using g6, by simpa [hnx] using g7⟩⟩
    ·cases h
   ·rename_i h0
    obtain ⟨xs, hxs, h'⟩ := Option.bind_eq_some_iff.1 h
    clear h
    have h := h'
    clear h'
    split at h
    ·rename_i hc
     cases h
     obtain ⟨p1, p2⟩ := Ii hf parts
     have := GA hE he hl.1 hl.2 hxs hc.1 (fun x hx => List.all_eq_true.1 hc.2 x hx) p1 p2
     exact ⟨rfl, .of_does (by rw [hh, hnx]; exact this)⟩
    ·cases h
  ·cases h
 ·-- nilCheck
  rename_i y
  split at h
  ·rename_i hy
   cases h
   have h1 := ev y
   rw [hy] at h1
   have h2 := h1
   simp only [rep] at h2
   obtain ⟨_, _, ad, hv, _⟩ := h2
   exact ⟨rfl, E, .value (a.eval y), a.eval y, hh.symm, hnx.symm, .refl E, hE, .refl P E, by rw [hv]; rfl, .inl rfl, h1⟩
  ·rename_i hy
   cases h
   have h1 := ev y
   rw [hy] at h1
   have h2 := h1
   simp only [rep] at h2
   obtain ⟨b, off, c, fz, u, hv, _⟩ := h2
   exact ⟨rfl, E, .value (a.eval y), a.eval y, hh.symm, hnx.symm, .refl E, hE, .refl P E, by rw [hv]; rfl, .inl rfl, h1⟩
  ·cases h
 ·-- load
  rename_i t y
  split at h
  ·rename_i hok
   simp only [Option.map_eq_some_iff, Prod.mk.injEq] at h
   obtain ⟨z, hz, rfl, rfl⟩ := h
   exact ⟨rfl, .same hE hh hnx (HH hE hh hok hz (ev y))⟩
  ·cases h
 ·-- store
  rename_i t y z
  split at h
  ·rename_i hok
   simp only [Option.map_eq_some_iff, Prod.mk.injEq] at h
   obtain ⟨s, hs, rfl, rfl⟩ := h
   obtain ⟨g1, g2, E', g3, g4, g5, g6, g7, g8⟩ := KR hE hh hok hs (ev y) (ev z)
   exact ⟨g1, E', .skip, undef, g3, by rw [g4, g2, hnx], g5, g6, g7, by simp [g8], .inr ⟨rfl, rfl⟩, by simp [rep]⟩
  ·cases h
 ·-- binOp
  rename_i op t y z zt
  split at h
  ·rename_i hb
   simp only [Option.map_eq_some_iff, Prod.mk.injEq] at h
   obtain ⟨r, hr, rfl, rfl⟩ := h
   refine ⟨rfl, .same hE hh hnx (Lr (fun b hb' => N7 (hb (by rw [hb']; rfl))) hr (ev y) (ev z) (fun c hc => by rw [hc]; rfl))⟩
  ·cases h
 ·-- unOp
  rename_i op t y
  simp only [Option.map_eq_some_iff, Prod.mk.injEq] at h
  obtain ⟨r, hr, rfl, rfl⟩ := h
  exact ⟨rfl, .same hE hh hnx (PT hr (ev y))⟩
 ·-- convert
  rename_i src dst y
  split at h
  ·rename_i hok
   simp only [Option.map_eq_some_iff, Prod.mk.injEq] at h
   obtain ⟨r, hr, rfl, rfl⟩ := h
   obtain ⟨d, i, hd, _⟩ := Er hok
   exact ⟨rfl, .same hE hh hnx (Lw hE hh (by simp [hd]) hr (ev y))⟩
  ·cases h
 ·-- makeFunc
  rename_i f first cap
  cases h
  refine ⟨rfl, .same hE hh hnx ⟨.func f (first.map a.eval) (cap.map a.eval), by simp [Instr.makeFunc], ?_⟩⟩
  simp only [rep]
  exact ⟨first.toList.map a.eval, cap.toList.map a.eval, by congr 1 <;> (apply Array.ext'; simp), Fc hf _, Fc hf _⟩
 ·-- makeSlice
  rename_i t l c
  obtain ⟨e, he, h'⟩ := Option.bind_eq_some_iff.1 h
  clear h
  have h := h'
  clear h'
  split at h
  ·rename_i k l' k' c' hl hc
   split at h
   ·rename_i hcond
    obtain ⟨z, hz, h'⟩ := Option.bind_eq_some_iff.1 h
    clear h
    have h := h'
    clear h'
    split at h
    ·rename_i hze
     cases h
     have hl' := ev l; rw [hl] at hl'
     have hc' := ev c; rw [hc] at hc'
     rw [Be hl', Be hc']
     obtain ⟨E', r, g1, g2, g3, g4, g5, g6, g7⟩ := Lu (t := t) (k := k) (k' := k') hE he hz hze hcond.1 hcond.2.1 hcond.2.2.1 hcond.2.2.2
     exact ⟨rfl, .of_does ⟨E', r, by simp [g1, St.new, hh, hnx], by simp [g2, St.new, hnx], g3, g4, g5, g6, by simpa [hnx] using g7⟩⟩
    ·cases h
   ·cases h
  ·cases h
 ·-- slice
  rename_i t y lo hi mx
  simp only [Option.map_eq_some_iff, Prod.mk.injEq] at h
  obtain ⟨r, hr, rfl, rfl⟩ := h
  cases mx with
  | some m =>
   refine ⟨rfl, .same hE hh hnx (JS hE hh hr (ev y) ?_ ?_ (ev m))⟩
   ·intro hx; cases lo with
    | none => rfl
    | some l => simp at hx
   ·intro x hx; cases hi with
    | none => simp at hx
    | some l => simp only [Option.map_some, Option.some.injEq] at hx; subst hx; exact ⟨_, rfl, ev l⟩
  | none =>
   refine ⟨rfl, .same hE hh hnx (KQ hE hh hr (ev y) ?_ ?_ ?_ ?_)⟩
   ·intro x hx; cases lo with
    | none => simp at hx
    | some l => simp only [Option.map_some, Option.some.injEq] at hx; subst hx; exact ⟨_, rfl, ev l⟩
   ·intro hx; cases lo with
    | none => rfl
    | some l => simp at hx
   ·intro x hx; cases hi with
    | none => simp at hx
    | some l => simp only [Option.map_some, Option.some.injEq] at hx; subst hx; exact ⟨_, rfl, ev l⟩
   ·intro hx; cases hi with
    | none => rfl
    | some l => simp at hx
 ·-- fieldAddr
  rename_i s y f
  split at h
  ·rename_i off u id n i j hoff hy
   split at h
   ·rename_i hu
    cases h
    have h1 := ev y; rw [hy] at h1
    simp only [rep] at h1
    obtain ⟨hid, hnl, ad, hv, had⟩ := h1
    obtain ⟨fs, fd, hfs, hfd, rfl, rfl⟩ := DT hoff
    refine ⟨rfl, .same hE hh hnx ⟨.pointer (some (ad.add fd.offset)), ?_, ?_⟩⟩
    ·rw [hv]; exact Gd hfs hfd hu ad
    ·simp only [rep]
     refine ⟨hid, hnl, _, rfl, fun g1 g2 => ?_⟩
     rw [had g1 g2, DQ, Nat.add_assoc]
   ·cases h
  ·rename_i off u t v j hoff hy
   split at h
   ·rename_i hu
    cases h
    have h1 := ev y; rw [hy] at h1
    simp only [rep] at h1
    obtain ⟨b, o, c, fz, uu, hv, hI, hb, hr, hsz, hc⟩ := h1
    obtain ⟨fs, fd, hfs, hfd, rfl, rfl⟩ := DT hoff
    refine ⟨rfl, .same hE hh hnx ⟨.pointer (some ((⟨b, o + j, none⟩ : Addr).add fd.offset)), ?_, ?_⟩⟩
    ·rw [hv]; exact Gd hfs hfd hu _
    ·simp only [rep]
     exact ⟨b, o, c, fz, uu, by rw [DQ, Nat.add_assoc], hI, hb, hr, hsz, hc⟩
   ·cases h
  ·cases h
 ·-- field
  rename_i t y f
  split at h
  ·rename_i off u cs hoff hy
   split at h
   ·rename_i hok
    simp only [Option.map_eq_some_iff, Prod.mk.injEq] at h
    obtain ⟨z, hz, rfl, rfl⟩ := h
    have h1 := ev y; rw [hy] at h1
    simp only [rep] at h1
    obtain ⟨vs, hv, hvs⟩ := h1
    obtain ⟨fs, fd, hfs, hfd, rfl, rfl⟩ := DT hoff
    obtain ⟨d, i, hd, hi⟩ := Er hok
    obtain ⟨r, g1, g2⟩ := Ry (w := E.w) hd hi hz hvs
    refine ⟨rfl, .same hE hh hnx ⟨r, ?_, g2⟩⟩
    simp only [Instr.field, Sem.run_bind, AK hfs, Result.andThen_ok, hfd, hv, asAgg, Sem.run_pure, g1]
   ·cases h
  ·cases h
 ·-- indexAddr
  rename_i t y i
  simp only [Option.map_eq_some_iff, Prod.mk.injEq] at h
  obtain ⟨r, hr, rfl, rfl⟩ := h
  exact ⟨rfl, .same hE hh hnx (G0 hE hh hr (ev y) (ev i))⟩
 ·-- index
  rename_i t y i
  split at h
  ·rename_i s k i' hs hi
   split at h
   ·rename_i hc
    simp only [Option.map_eq_some_iff, Prod.mk.injEq] at h
    obtain ⟨b, hb, rfl, rfl⟩ := h
    have h1 := ev y; rw [hs] at h1
    have h2 := ev i; rw [hi] at h2
    exact ⟨rfl, .same hE hh hnx ⟨_, JQ (Fd hc.1) h1 h2 hc.2.1 hb, by simp [rep]⟩⟩
   ·cases h
  ·cases h
 ·-- extract
  rename_i t i
  split at h
  ·rename_i vs hvs
   simp only [Option.map_eq_some_iff, Prod.mk.injEq] at h
   obtain ⟨z, hz, rfl, rfl⟩ := h
   have h1 := ev t; rw [hvs] at h1
   exact ⟨rfl, .same hE hh hnx (IP h1 hz)⟩
  ·cases h
 ·-- builtins
  rename_i b as0 ts
  split at h
  ·rename_i y t has hts
   have has' : as0 = #[y] := Array.ext' (by simpa using has)
   have hts' : ts = #[t] := Array.ext' (by simpa using hts)
   subst has'; subst hts'
   split at h
   ·rename_i hok
    simp only [Option.map_eq_some_iff, Prod.mk.injEq] at h
    obtain ⟨n, hn, rfl, rfl⟩ := h
    refine ⟨rfl, .same hE hh hnx (s := Builtin.len_ #[t] type (#[y].map a.eval)) ⟨.int .i64 n, ?_, by simp [rep]⟩⟩
    have : #[y].map a.eval = #[a.eval y] := by simp
    rw [this]
    exact N8 hok hn (ev y)
   ·cases h
  ·rename_i s y t u has hts
   have has' : as0 = #[s, y] := Array.ext' (by simpa using has)
   have hts' : ts = #[t, u] := Array.ext' (by simpa using hts)
   subst has'; subst hts'
   obtain ⟨e, he, h'⟩ := Option.bind_eq_some_iff.1 h
   clear h
   have h := h'
   clear h'
   split at h
   ·rename_i ys hc
    have hc' : elT P u = some e ∧ zokT P e = true ∧ winA st e (st.ev y) = some ys := by
     revert hc
     split
     ·rename_i hcc; intro h; exact ⟨hcc.1, hcc.2, h⟩
     ·intro h; cases h
    obtain ⟨g1, g2⟩ := Ff (ty := type) hE hh hnx he hc'.1 hc'.2.1 hc'.2.2 h (ev s) (ev y)
    refine ⟨g1, .of_does (s := Builtin.append_ #[t, u] type (#[s, y].map a.eval)) ?_⟩
    have : #[s, y].map a.eval = #[a.eval s, a.eval y] := by simp
    rw [this]
    exact g2
   ·obtain ⟨g1, g2⟩ := IQ (ty := type) hE hh hnx he h (ev s) (ev y)
    refine ⟨g1, .of_does (s := Builtin.append_ #[t, u] type (#[s, y].map a.eval)) ?_⟩
    have : #[s, y].map a.eval = #[a.eval s, a.eval y] := by simp
    rw [this]
    exact g2
  ·-- cap
   rename_i y t has hts
   have has' : as0 = #[y] := Array.ext' (by simpa using has)
   have hts' : ts = #[t] := Array.ext' (by simpa using hts)
   subst has'; subst hts'
   split at h
   ·rename_i e hy ht
    simp only [Option.some.injEq, Prod.mk.injEq] at h
    obtain ⟨rfl, rfl⟩ := h
    refine ⟨rfl, .same hE hh hnx (s := Builtin.cap_ #[t] type (#[y].map a.eval)) ⟨.int .i64 0, ?_, by simp [rep]⟩⟩
    have hv := ev y
    rw [hy] at hv
    simp only [rep] at hv
    obtain ⟨b, hb⟩ := hv
    have : #[y].map a.eval = #[a.eval y] := by simp
    rw [this, hb]
    simp only [Builtin.cap_, List.getElem?_toArray, List.getElem?_cons_zero, Sem.run_bind, AK (BB ht), Result.andThen_ok, Sem.run_pure]
    rfl
   ·cases h
  ·rename_i s y t u has hts
   have has' : as0 = #[s, y] := Array.ext' (by simpa using has)
   have hts' : ts = #[t, u] := Array.ext' (by simpa using hts)
   subst has'; subst hts'
   obtain ⟨e, he, h'⟩ := Option.bind_eq_some_iff.1 h
   clear h
   have h := h'
   clear h'
   split at h
   ·rename_i hc
    obtain ⟨ys, hys, h'⟩ := Option.bind_eq_some_iff.1 h
    obtain ⟨g1, g2⟩ := Lv (ty := type) hE hh hnx he hc.1 hc.2 hys h' (ev s) (ev y)
    refine ⟨g1, .of_does (s := Builtin.copy_ #[t, u] type (#[s, y].map a.eval)) ?_⟩
    have : #[s, y].map a.eval = #[a.eval s, a.eval y] := by simp
    rw [this]
    exact g2
   ·cases h
  ·rename_i y z has
   have has' : as0 = #[y, z] := Array.ext' (by simpa using has)
   subst has'
   split at h
   ·rename_i k p k' q hp hq
    split at h
    ·rename_i hk
     subst hk
     cases h
     have h1 := ev y; rw [hp] at h1
     have h2 := ev z; rw [hq] at h2
     refine ⟨rfl, .same hE hh hnx ⟨.int k (if q > p then q else p), ?_, by simp [rep]⟩⟩
     show (Builtin.max_ ts type (#[y, z].map a.eval)).run P E.w = _
     have : #[y, z].map a.eval = #[.int k p, .int k q] := by simp [Be h1, Be h2]
     rw [this]; exact OB
    ·cases h
   ·cases h
  ·rename_i y z has
   have has' : as0 = #[y, z] := Array.ext' (by simpa using has)
   subst has'
   split at h
   ·rename_i k p k' q hp hq
    split at h
    ·rename_i hk
     subst hk
     cases h
     have h1 := ev y; rw [hp] at h1
     have h2 := ev z; rw [hq] at h2
     refine ⟨rfl, .same hE hh hnx ⟨.int k (if q < p then q else p), ?_, by simp [rep]⟩⟩
     show (Builtin.min_ ts type (#[y, z].map a.eval)).run P E.w = _
     have : #[y, z].map a.eval = #[.int k p, .int k q] := by simp [Be h1, Be h2]
     rw [this]; exact OC
    ·cases h
   ·cases h
  ·cases h
 ·cases h
structure OLoc where
 l : Loc
 t : Nat
 n : Nat
mutual
def ownR (P : Program) (E : Env) : AV → Value → List OLoc → Prop
 | .own t xs sp ex, v, L => ∃ l L1 L2 vs us c ad, L = ⟨l, t, xs.length + sp.length⟩ :: (L1 ++ L2) ∧ v = .slice (some ad) xs.length l.cap ∧ (l.cap ≠ 0 → ad = ⟨l.b, l.base, none⟩) ∧
  ¬ E.I l.b ∧ xs.length + sp.length ≤ l.cap ∧ (ex = true → l.cap = xs.length + sp.length) ∧ (∀ x ∈ xs ++ sp, x.el P t = true) ∧ ownRL P E xs vs L1 ∧ ownRL P E sp us L2 ∧
  E.w.heap[l.b]? = some (.cells c t (0, 0)) ∧ CellsAt c l.base (szT P t) (vs ++ us) ∧ l.base + l.cap * szT P t ≤ c.size
 | .agg cs, v, L => ∃ vs, v = .agg vs.toArray ∧ ownRL P E cs vs L
 | .tup cs, v, L => ∃ vs, v = .tuple vs.toArray ∧ ownRL P E cs vs L
 | .undef, _, L => L = []
 | .bool b, v, L => L = [] ∧ rep P E (.bool b) v
 | .int k n, v, L => L = [] ∧ rep P E (.int k n) v
 | .str s, v, L => L = [] ∧ rep P E (.str s) v
 | .nil, v, L => L = [] ∧ rep P E .nil v
 | .sl t xs sp ex, v, L => L = [] ∧ (AV.sl t xs sp ex).pure = true ∧ rep P E (.sl t xs sp ex) v
 | .cptr t x j, v, L => L = [] ∧ (AV.cptr t x j).pure = true ∧ rep P E (.cptr t x j) v
 | .fn f a b, v, L => L = [] ∧ (AV.fn f a b).pure = true ∧ rep P E (.fn f a b) v
 | .ref .., _, _ => False
 | .ptr .., _, _ => False
def ownRL (P : Program) (E : Env) : List AV → List Value → List OLoc → Prop
 | [], vs, L => vs = [] ∧ L = []
 | x :: xs, vs, L => ∃ v us L1 L2, vs = v :: us ∧ L = L1 ++ L2 ∧ ownR P E x v L1 ∧ ownRL P E xs us L2
end
mutual
theorem Bj {P : Program} {E E' : Env} (hI : ∀ b, E.I b → E'.I b ∧ E'.w.heap[b]? = E.w.heap[b]?) : ∀ (x : AV) (v : Value), x.pure = true → rep P E x v → rep P E' x v
 | .undef, _, _, _ => by simp [rep]
 | .bool b, v, _, h => by simpa [rep] using h
 | .int k n, v, _, h => by simpa [rep] using h
 | .str s, v, _, h => by simpa [rep] using h
 | .nil, v, _, h => by simpa [rep] using h
 | .sl t xs sp ex, v, hp, h => by
  simp only [AV.pure, Bool.and_eq_true] at hp
  simp only [rep] at h ⊢
  obtain ⟨a, cap, h1, h2, h3, h7, vs, us, h4, h5, h6⟩ := h
  refine ⟨a, cap, h1, h2, h3, h7, vs, us, BP hI xs vs hp.1 h4, BP hI sp us hp.2 h5, fun hne => ?_⟩
  obtain ⟨b, off, c, fz, g1, g2, g3, g4⟩ := h6 hne
  exact ⟨b, off, c, fz, g1, (hI b g2).1, by rw [(hI b g2).2]; exact g3, g4⟩
 | .ref .., _, hp, _ => by simp [AV.pure] at hp
 | .own .., _, hp, _ => by simp [AV.pure] at hp
 | .ptr .., _, hp, _ => by simp [AV.pure] at hp
 | .cptr t x j, v, hp, h => by
  simp only [AV.pure] at hp
  simp only [rep] at h ⊢
  obtain ⟨b, off, c, fz, u, h1, h2, h3, h4, h6, h5⟩ := h
  exact ⟨b, off, c, fz, u, h1, (hI b h2).1, by rw [(hI b h2).2]; exact h3, Bj hI x u hp h4, h6, h5⟩
 | .fn f first cap, v, hp, h => by
  simp only [AV.pure, Bool.and_eq_true] at hp
  simp only [rep] at h ⊢
  obtain ⟨vs, us, h1, h2, h3⟩ := h
  exact ⟨vs, us, h1, BP hI first vs hp.1 h2, BP hI cap us hp.2 h3⟩
 | .agg cs, v, hp, h => by
  simp only [AV.pure] at hp
  simp only [rep] at h ⊢
  obtain ⟨vs, h1, h2⟩ := h
  exact ⟨vs, h1, BP hI cs vs hp h2⟩
 | .tup xs, v, hp, h => by
  simp only [AV.pure] at hp
  simp only [rep] at h ⊢
  obtain ⟨vs, h1, h2⟩ := h
  exact ⟨vs, h1, BP hI xs vs hp h2⟩
theorem BP {P : Program} {E E' : Env} (hI : ∀ b, E.I b → E'.I b ∧ E'.w.heap[b]? = E.w.heap[b]?) : ∀ (xs : List AV) (vs : List Value), AV.pureL xs = true → repL P E xs vs → repL P E' xs vs
 | [], vs, _, h => by simpa [repL] using h
 | x :: xs, vs, hp, h => by
  simp only [AV.pureL, Bool.and_eq_true] at hp
  simp only [repL] at h ⊢
  obtain ⟨v, us, h1, h2, h3⟩ := h
  exact ⟨v, us, h1, Bj hI x v hp.1 h2, BP hI xs us hp.2 h3⟩
end
mutual
theorem GC {P : Program} {E E' : Env} (hw : E'.w = E.w) (hI : E'.I = E.I) : ∀ (x : AV) (v : Value) (L : List OLoc), ownR P E x v L → ownR P E' x v L
 | .own t xs sp ex, v, L, h => by
  simp only [ownR] at h ⊢
  obtain ⟨l, L1, L2, vs, us, c, ad, h1, h2, h3, h4, h5, h6, h7, h8, h9, h10, h11⟩ := h
  exact ⟨l, L1, L2, vs, us, c, ad, h1, h2, h3, by rw [hI]; exact h4, h5, h6, h7, Br hw hI xs vs L1 h8, Br hw hI sp us L2 h9, by rw [hw]; exact h10, h11⟩
 | .agg cs, v, L, h => by simp only [ownR] at h ⊢; obtain ⟨vs, h1, h2⟩ := h; exact ⟨vs, h1, Br hw hI cs vs L h2⟩
 | .tup cs, v, L, h => by simp only [ownR] at h ⊢; obtain ⟨vs, h1, h2⟩ := h; exact ⟨vs, h1, Br hw hI cs vs L h2⟩
 | .undef, v, L, h => by simpa [ownR] using h
 | .bool b, v, L, h => by simpa [ownR, rep] using h
 | .int k n, v, L, h => by simpa [ownR, rep] using h
 | .str s, v, L, h => by simpa [ownR, rep] using h
 | .nil, v, L, h => by simpa [ownR, rep] using h
 | .sl t xs sp ex, v, L, h => by simp only [ownR] at h ⊢; exact ⟨h.1, h.2.1, Bj (fun b hb => ⟨by rw [hI]; exact hb, by rw [hw]⟩) _ _ h.2.1 h.2.2⟩
 | .cptr t x j, v, L, h => by simp only [ownR] at h ⊢; exact ⟨h.1, h.2.1, Bj (fun b hb => ⟨by rw [hI]; exact hb, by rw [hw]⟩) _ _ h.2.1 h.2.2⟩
 | .fn f a b, v, L, h => by simp only [ownR] at h ⊢; exact ⟨h.1, h.2.1, Bj (fun b hb => ⟨by rw [hI]; exact hb, by rw [hw]⟩) _ _ h.2.1 h.2.2⟩
 | .ref .., v, L, h => by simp [ownR] at h
 | .ptr .., v, L, h => by simp [ownR] at h
theorem Br {P : Program} {E E' : Env} (hw : E'.w = E.w) (hI : E'.I = E.I) : ∀ (xs : List AV) (vs : List Value) (L : List OLoc), ownRL P E xs vs L → ownRL P E' xs vs L
 | [], vs, L, h => by simpa [ownRL] using h
 | x :: xs, vs, L, h => by
  simp only [ownRL] at h ⊢
  obtain ⟨v, us, L1, L2, h1, h2, h3, h4⟩ := h
  exact ⟨v, us, L1, L2, h1, h2, GC hw hI x v L1 h3, Br hw hI xs us L2 h4⟩
end
mutual
theorem Bw {P : Program} {E : Env} : ∀ (x : AV) (v : Value), x.pure = true → rep P E x v → ownR P E x v []
 | .own .., _, hp, _ => by simp [AV.pure] at hp
 | .ref .., _, hp, _ => by simp [AV.pure] at hp
 | .ptr .., _, hp, _ => by simp [AV.pure] at hp
 | .agg cs, v, hp, h => by
  simp only [AV.pure] at hp; simp only [rep] at h; simp only [ownR]
  obtain ⟨vs, h1, h2⟩ := h; exact ⟨vs, h1, Cu cs vs hp h2⟩
 | .tup cs, v, hp, h => by
  simp only [AV.pure] at hp; simp only [rep] at h; simp only [ownR]
  obtain ⟨vs, h1, h2⟩ := h; exact ⟨vs, h1, Cu cs vs hp h2⟩
 | .undef, _, _, _ => by simp [ownR]
 | .bool b, v, _, h => by simp only [ownR]; exact ⟨trivial, h⟩
 | .int k n, v, _, h => by simp only [ownR]; exact ⟨trivial, h⟩
 | .str s, v, _, h => by simp only [ownR]; exact ⟨trivial, h⟩
 | .nil, v, _, h => by simp only [ownR]; exact ⟨trivial, h⟩
 | .sl t xs sp ex, v, hp, h => by simp only [ownR]; exact ⟨trivial, hp, h⟩
 | .cptr t x j, v, hp, h => by simp only [ownR]; exact ⟨trivial, hp, h⟩
 | .fn f a b, v, hp, h => by simp only [ownR]; exact ⟨trivial, hp, h⟩
theorem Cu {P : Program} {E : Env} : ∀ (xs : List AV) (vs : List Value), AV.pureL xs = true → repL P E xs vs → ownRL P E xs vs []
 | [], vs, _, h => by simp only [repL] at h; simp [ownRL, h]
 | x :: xs, vs, hp, h => by
  simp only [AV.pureL, Bool.and_eq_true] at hp
  simp only [repL] at h; simp only [ownRL]
  obtain ⟨v, us, h1, h2, h3⟩ := h
  exact ⟨v, us, [], [], h1, rfl, Bw x v hp.1 h2, Cu xs us hp.2 h3⟩
end
mutual
theorem EV {P : Program} {E : Env} : ∀ (x : AV) (v : Value) (L : List OLoc), x.pure = true → ownR P E x v L → L = [] ∧ rep P E x v
 | .own .., _, _, hp, _ => by simp [AV.pure] at hp
 | .ref .., _, _, hp, _ => by simp [AV.pure] at hp
 | .ptr .., _, _, hp, _ => by simp [AV.pure] at hp
 | .agg cs, v, L, hp, h => by
  simp only [AV.pure] at hp; simp only [ownR] at h; simp only [rep]
  obtain ⟨vs, h1, h2⟩ := h
  obtain ⟨h3, h4⟩ := B7 cs vs L hp h2
  exact ⟨h3, vs, h1, h4⟩
 | .tup cs, v, L, hp, h => by
  simp only [AV.pure] at hp; simp only [ownR] at h; simp only [rep]
  obtain ⟨vs, h1, h2⟩ := h
  obtain ⟨h3, h4⟩ := B7 cs vs L hp h2
  exact ⟨h3, vs, h1, h4⟩
 | .undef, _, _, _, h => by simp only [ownR] at h; exact ⟨h, by simp [rep]⟩
 | .bool b, v, _, _, h => by simpa only [ownR] using h
 | .int k n, v, _, _, h => by simpa only [ownR] using h
 | .str s, v, _, _, h => by simpa only [ownR] using h
 | .nil, v, _, _, h => by simpa only [ownR] using h
 | .sl t xs sp ex, v, _, _, h => by simp only [ownR] at h; exact ⟨h.1, h.2.2⟩
 | .cptr t x j, v, _, _, h => by simp only [ownR] at h; exact ⟨h.1, h.2.2⟩
 | .fn f a b, v, _, _, h => by simp only [ownR] at h; exact ⟨h.1, h.2.2⟩
theorem B7 {P : Program} {E : Env} : ∀ (xs : List AV) (vs : List Value) (L : List OLoc), AV.pureL xs = true → ownRL P E xs vs L → L = [] ∧ repL P E xs vs
 | [], vs, L, _, h => by simp only [ownRL] at h; exact ⟨h.2, by simp [repL, h.1]⟩
 | x :: xs, vs, L, hp, h => by
  simp only [AV.pureL, Bool.and_eq_true] at hp
  simp only [ownRL] at h; simp only [repL]
  obtain ⟨v, us, L1, L2, h1, h2, h3, h4⟩ := h
  obtain ⟨e1, r1⟩ := EV x v L1 hp.1 h3
  obtain ⟨e2, r2⟩ := B7 xs us L2 hp.2 h4
  exact ⟨by rw [h2, e1, e2]; rfl, v, us, h1, r1, r2⟩
end
theorem C8 {P : Program} {E : Env} : ∀ (xs : List AV) (vs : List Value) (L : List OLoc), ownRL P E xs vs L → vs.length = xs.length
 | [], vs, L, h => by simp only [ownRL] at h; simp [h.1]
 | x :: xs, vs, L, h => by
  simp only [ownRL] at h
  obtain ⟨v, us, L1, L2, rfl, _, _, h4⟩ := h
  simp [C8 xs us L2 h4]
theorem KT (g : Bool) {x : AV} (st : St) (h : x.one = true) : (matA g x st).1.one = true := by
 cases x <;> simp_all [matA, AV.one]
theorem KU (g : Bool) : ∀ (xs : List AV) (st : St), (∀ x ∈ xs, x.one = true) → (∀ y ∈ (matL g xs st).1, y.one = true) ∧ (matL g xs st).1.length = xs.length
 | [], st, _ => by simp [matL]
 | x :: xs, st, h => by
  obtain ⟨h1, h2⟩ := KU g xs (matA g x st).2 (fun y hy => h y (by simp [hy]))
  simp only [matL]
  refine ⟨fun y hy => ?_, by simp [h2]⟩
  rcases List.mem_cons.1 hy with rfl | hy
  ·exact KT g st (h x zS)
  ·exact h1 y hy
theorem R4 (g : Bool) {P : Program} {t : Nat} {x : AV} (st : St) (h : x.el P t = true) : (matA g x st).1.el P t = true := by
 have h1 := CI h
 have h2 := D8 h
 by_cases ha : ∃ cs, x = .agg cs
 ·obtain ⟨cs, rfl⟩ := ha
  simp only [AV.cells] at h1 h2
  obtain ⟨k1, k2⟩ := KU g cs st h2
  simp only [matA]
  unfold AV.el; rw [Bool.and_eq_true]
  exact ⟨decide_eq_true (by simpa [AV.cells, k2] using h1), List.all_eq_true.2 (by simpa [AV.cells] using k1)⟩
 ·have hx : x.cells = [x] := by cases x <;> simp_all [AV.cells]
  rw [hx] at h1 h2
  have ho := KT g st (h2 x zS)
  have hm : (matA g x st).1.cells = [(matA g x st).1] := Ib ho
  unfold AV.el; rw [Bool.and_eq_true]
  exact ⟨decide_eq_true (by rw [hm]; simpa using h1), List.all_eq_true.2 (by rw [hm]; simpa using ho)⟩
theorem JU (g : Bool) {P : Program} {t : Nat} : ∀ (xs : List AV) (st : St), (∀ x ∈ xs, x.el P t = true) → ∀ y ∈ (matL g xs st).1, y.el P t = true
 | [], st, _, y, hy => by simp [matL] at hy
 | x :: xs, st, h, y, hy => by
  simp only [matL] at hy
  rcases List.mem_cons.1 hy with rfl | hy
  ·exact R4 g st (h x zS)
  ·exact JU g xs _ (fun z hz => h z (by simp [hz])) y hy
mutual
theorem G5 (g : Bool) : ∀ (x : AV) (st : St), (matA g x st).2.fr = st.fr
 | .own t xs sp ex, st => by simp only [matA, St.new]; rw [Fi g sp, Fi g xs]
 | .agg cs, st => by simp only [matA]; exact Fi g cs st
 | .tup vs, st => by simp only [matA]; exact Fi g vs st
 | .undef, _ | .bool _, _ | .int .., _ | .str _, _ | .nil, _ | .sl .., _ | .ref .., _ | .ptr .., _ | .cptr .., _ | .fn .., _ => by simp [matA]
theorem Fi (g : Bool) : ∀ (xs : List AV) (st : St), (matL g xs st).2.fr = st.fr
 | [], _ => by simp [matL]
 | x :: xs, st => by simp only [matL]; rw [Fi g xs, G5 g x]
end
mutual
theorem OD (g : Bool) : ∀ (x : AV) (st : St), st.nx ≤ (matA g x st).2.nx ∧ (∀ i, i < st.nx → (matA g x st).2.h i = st.h i) ∧ (∀ i, st.nx ≤ i → i < (matA g x st).2.nx → ((matA g x st).2.h i).lv = true)
 | .own t xs sp ex, st => by
  obtain ⟨a1, a2, a3⟩ := DH g xs st
  obtain ⟨b1, b2, b3⟩ := DH g sp (matL g xs st).2
  simp only [matA, St.new]
  refine ⟨zO, fun i hi => ?_, fun i h1 h2 => ?_⟩
  ·rw [upd, if_neg zO, b2 i zO, a2 i hi]
  ·rw [upd]; split
   ·rfl
   ·rcases Nat.lt_or_ge i (matL g xs st).2.nx with h | h
    ·rw [b2 i h]; exact a3 i h1 h
    ·exact b3 i h zO
 | .agg cs, st => by simp only [matA]; exact DH g cs st
 | .tup vs, st => by simp only [matA]; exact DH g vs st
 | .undef, st | .bool _, st | .int .., st | .str _, st | .nil, st | .sl .., st | .ref .., st | .ptr .., st | .cptr .., st | .fn .., st => by
  simp only [matA]; exact ⟨Nat.le_refl _, fun _ _ => trivial, fun i h1 h2 => by omega⟩
theorem DH (g : Bool) : ∀ (xs : List AV) (st : St), st.nx ≤ (matL g xs st).2.nx ∧ (∀ i, i < st.nx → (matL g xs st).2.h i = st.h i) ∧ (∀ i, st.nx ≤ i → i < (matL g xs st).2.nx → ((matL g xs st).2.h i).lv = true)
 | [], st => by simp only [matL]; exact ⟨Nat.le_refl _, fun _ _ => trivial, fun i h1 h2 => by omega⟩
 | x :: xs, st => by
  obtain ⟨a1, a2, a3⟩ := OD g x st
  obtain ⟨b1, b2, b3⟩ := DH g xs (matA g x st).2
  simp only [matL]
  refine ⟨zO, fun i hi => by rw [b2 i zO, a2 i hi], fun i h1 h2 => ?_⟩
  rcases Nat.lt_or_ge i (matA g x st).2.nx with h | h
  ·rw [b2 i h]; exact a3 i h1 h
  ·exact b3 i h h2
end
structure MatOk (P : Program) (g : Bool) (E E' : Env) (L : List OLoc) : Prop where
 w : E'.w = E.w
 I : E'.I = E.I
 le : E.Le E'
 ok : Ok P E'
 old : ∀ id, id < E.nx → E'.m id = E.m id ∧ E'.h id = E.h id
 new : ∀ id, (E'.h id).lv = true → ((E.h id).lv = true ∧ E'.m id = E.m id ∧ E'.h id = E.h id) ∨
  (∃ o ∈ L, E'.m id = o.l ∧ (E'.h id).t = o.t ∧ (E'.h id).xs.length = o.n ∧ (E'.h id).gr = g)
theorem MatOk.refl {P : Program} {g : Bool} {E : Env} (hE : Ok P E) : MatOk P g E E [] := ⟨rfl, rfl, .refl E, hE, fun _ _ => ⟨rfl, rfl⟩, fun _ h => .inl ⟨h, rfl, rfl⟩⟩
theorem MatOk.trans {P : Program} {g : Bool} {A B C : Env} {L1 L2 : List OLoc} (h : MatOk P g A B L1) (k : MatOk P g B C L2) : MatOk P g A C (L1 ++ L2) :=
 ⟨k.w.trans h.w, k.I.trans h.I, h.le.trans k.le, k.ok, fun id hid => ⟨(k.old id (Nat.lt_of_lt_of_le hid h.le.nx)).1.trans (h.old id hid).1, (k.old id (Nat.lt_of_lt_of_le hid h.le.nx)).2.trans (h.old id hid).2⟩, fun id hid => by
  rcases k.new id hid with ⟨a1, a2, a3⟩ | ⟨o, ho, a⟩
  ·rcases h.new id a1 with ⟨b1, b2, b3⟩ | ⟨o, ho, b1, b2, b3, b4⟩
   ·exact .inl ⟨b1, a2.trans b2, a3.trans b3⟩
   ·exact .inr ⟨o, List.mem_append_left _ ho, a2.trans b1, by rw [a3]; exact b2, by rw [a3]; exact b3, by rw [a3]; exact b4⟩
  ·exact .inr ⟨o, List.mem_append_right _ ho, a⟩⟩
theorem PW {P : Program} {E : Env} (hE : Ok P E) (l : Loc) (c : Array Value) (t : Nat) (xs : List AV) (vs : List Value) (ex g : Bool) (hr : repL P E xs vs) (hc : CellsAt c l.base (szT P t) vs)
  (hcl : ∀ x ∈ xs, x.el P t = true) (hle : xs.length ≤ l.cap) (hex : ex = true → l.cap = xs.length) (hsz : l.base + l.cap * szT P t ≤ c.size) (hb : E.w.heap[l.b]? = some (.cells c t (0, 0)))
  (hI : ¬ E.I l.b) (hfree : ∀ id, (E.h id).lv = true → (E.m id).b ≠ l.b) (hg : g = true → l.base = 0) :
  MatOk P g E ⟨E.w, E.I, upd E.m E.nx l, upd E.h E.nx ⟨t, xs, ex, g, true⟩, E.nx + 1⟩ [⟨l, t, xs.length⟩] := by
 have hLe : E.Le ⟨E.w, E.I, upd E.m E.nx l, upd E.h E.nx ⟨t, xs, ex, g, true⟩, E.nx + 1⟩ := by
  refine ⟨Nat.le_succ _, fun b hb => ⟨hb, rfl⟩, fun id hid => ?_, fun id hid n _ h1 h2 => ?_⟩
  ·simp [upd, Nat.ne_of_lt hid]
  ·simp only [upd, Nat.ne_of_lt hid, if_false] at h1 h2 ⊢; exact ⟨h1, h2, by trivial, by trivial⟩
 refine ⟨rfl, rfl, hLe, ⟨fun id hlv => ?_, fun i j hi hj hij => ?_, hE.imm, hE.tab.le hLe⟩, fun id hid => by simp [upd, Nat.ne_of_lt hid], fun id hid => ?_⟩
 ·by_cases hid : id = E.nx
  ·subst hid
   refine ⟨zS, by simpa [upd] using hg, by simpa [upd] using hex, by simpa [upd] using hle, by simpa [upd] using hcl, by simpa [upd] using hI, ⟨c, vs, by simpa [upd] using hb, ?_, by simpa [upd] using hc, by simpa [upd] using hsz⟩⟩
   simp only [upd, if_true]; exact Ax hLe _ _ hr
  ·simp only [upd, hid, if_false] at hlv
   exact (hE.blk id hlv).move hLe (by simp [upd, hid]) (by simp [upd, hid]) rfl (hE.blk id hlv).dark
 ·by_cases h1 : i = E.nx <;> by_cases h2 : j = E.nx
  ·rw [h1, h2]
  ·simp only [upd, h1, h2, if_true, if_false] at hi hj hij
   exact absurd hij.symm (hfree j hj)
  ·simp only [upd, h1, h2, if_true, if_false] at hi hj hij
   exact absurd hij (hfree i hi)
  ·simp only [upd, h1, h2, if_false] at hi hj hij
   exact hE.inj i j hi hj hij
 ·by_cases h1 : id = E.nx
  ·subst h1; exact .inr ⟨_, List.mem_singleton_self _, by simp [upd], by simp [upd], by simp [upd], by simp [upd]⟩
  ·simp only [upd, h1, if_false] at hid; exact .inl ⟨hid, by simp [upd, h1], by simp [upd, h1]⟩
def Sep (E : Env) (L : List OLoc) : Prop := (L.map (·.l.b)).Nodup ∧ ∀ o ∈ L, ∀ id, (E.h id).lv = true → (E.m id).b ≠ o.l.b
theorem Sep.left {E : Env} {A B : List OLoc} (h : Sep E (A ++ B)) : Sep E A := by
 obtain ⟨h1, h2⟩ := h
 rw [List.map_append, List.nodup_append] at h1
 exact ⟨h1.1, fun o ho => h2 o (List.mem_append_left _ ho)⟩
theorem Sep.right {P : Program} {g : Bool} {E E' : Env} {A B : List OLoc} (h : Sep E (A ++ B)) (hm : MatOk P g E E' A) : Sep E' B := by
 obtain ⟨h1, h2⟩ := h
 rw [List.map_append, List.nodup_append] at h1
 refine ⟨h1.2.1, fun o ho id hid => ?_⟩
 rcases hm.new id hid with ⟨a1, a2, a3⟩ | ⟨p, hp, a2, _⟩
 ·rw [a2]; exact h2 o (List.mem_append_right _ ho) id a1
 ·rw [a2]; exact h1.2.2 _ (List.mem_map_of_mem hp) _ (List.mem_map_of_mem ho)
mutual
theorem FP {P : Program} {g : Bool} : ∀ (x : AV) (v : Value) (L : List OLoc) (st : St) (E : Env), Ok P E → E.h = st.h → E.nx = st.nx → ownR P E x v L → Sep E L → (g = true → ∀ o ∈ L, o.l.base = 0) →
  ∃ m', MatOk P g E ⟨E.w, E.I, m', (matA g x st).2.h, (matA g x st).2.nx⟩ L ∧ rep P ⟨E.w, E.I, m', (matA g x st).2.h, (matA g x st).2.nx⟩ (matA g x st).1 v ∧ (matA g x st).2.fr = st.fr ∧
   (x.flat = true → (matA g x st).2.nx = E.nx + L.length ∧ ∀ k o, L[k]? = some o → m' (E.nx + k) = o.l)
 | .own t xs sp ex, v, L, st, E, hE, hh, hnx, h, hs, hb => by
  simp only [ownR] at h
  obtain ⟨l, L1, L2, vs, us, c, ad, rfl, rfl, h3, h4, h5, h6, h7, h8, h9, h10, h11, h12⟩ := h
  have hs' : Sep E ([⟨l, t, xs.length + sp.length⟩] ++ (L1 ++ L2)) := hs
  have hsL : Sep E (L1 ++ L2) := by
   obtain ⟨k1, k2⟩ := hs'
   rw [List.map_append, List.nodup_append] at k1
   exact ⟨k1.2.1, fun o ho => k2 o (List.mem_append_right _ ho)⟩
  obtain ⟨m1, M1, r1, f1, q1⟩ := Cg xs vs L1 st E hE hh hnx h8 hsL.left (fun hg o ho => hb hg o (by simp [ho]))
  obtain ⟨m2, M2, r2, f2, q2⟩ := Cg sp us L2 (matL g xs st).2 ⟨E.w, E.I, m1, (matL g xs st).2.h, (matL g xs st).2.nx⟩ M1.ok rfl rfl (Br (E := E) (E' := ⟨E.w, E.I, m1, (matL g xs st).2.h, (matL g xs st).2.nx⟩) rfl rfl _ _ _ h9) (hsL.right M1) (fun hg o ho => hb hg o (by simp [ho]))
  have M12 := M1.trans M2
  have hl1 : (matL g xs st).1.length = xs.length := by rw [← AO r1]; exact C8 xs vs L1 h8
  have hl2 : (matL g sp (matL g xs st).2).1.length = sp.length := by rw [← AO r2]; exact C8 sp us L2 h9
  have hfree : ∀ id, ((matL g sp (matL g xs st).2).2.h id).lv = true → (m2 id).b ≠ l.b := by
   intro id hid
   obtain ⟨k1, k2⟩ := hs'
   rw [List.map_append, List.nodup_append] at k1
   rcases M12.new id hid with ⟨a1, a2, _⟩ | ⟨o, ho, a2, _⟩
   ·rw [show m2 id = E.m id from a2]; exact k2 ⟨l, t, xs.length + sp.length⟩ zS id a1
   ·rw [show m2 id = o.l from a2]
    exact fun e => k1.2.2 _ zS _ (List.mem_map_of_mem ho) e.symm
  have hcl : ∀ y ∈ (matL g xs st).1 ++ (matL g sp (matL g xs st).2).1, y.el P t = true := by
   intro y hy
   rcases List.mem_append.1 hy with hy | hy
   ·exact JU g xs st (fun x hx => h7 x (by simp [hx])) y hy
   ·exact JU g sp _ (fun x hx => h7 x (by simp [hx])) y hy
  have A := PW M12.ok l c t ((matL g xs st).1 ++ (matL g sp (matL g xs st).2).1) (vs ++ us) ex g (Ap (Ax M2.le _ _ r1) r2) h11 hcl
   (by rw [List.length_append, hl1, hl2]; exact h5) (by rw [List.length_append, hl1, hl2]; exact h6) h12 h10 h4 hfree (fun hg => hb hg _ (List.mem_cons_self ..))
  refine ⟨upd m2 (matL g sp (matL g xs st).2).2.nx l, ?_, ?_, ?_, ?_⟩
  ·have T := M12.trans A
   simp only [matA]
   refine ⟨T.w, T.I, T.le, T.ok, T.old, fun id hid => ?_⟩
   rcases T.new id hid with h | ⟨o, ho, h⟩
   ·exact .inl h
   ·refine .inr ⟨o, ?_, h⟩
    rw [List.length_append, hl1, hl2] at ho
    simp only [List.mem_append, List.mem_cons, List.mem_singleton, List.not_mem_nil, or_false] at ho ⊢
    rcases ho with ho | ho
    ·exact .inr ho
    ·exact .inl ho
  ·simp only [matA, rep]
   refine ⟨Nat.lt_succ_self _, by simp [St.new, upd, hl1, hl2], ad, l.cap, rfl, fun _ _ => ⟨zO, by simp [upd], fun hk => by simpa [upd] using h3 hk⟩⟩
  ·simp only [matA, St.new]; rw [f2, f1]
  ·intro hfl
   simp only [AV.flat, Bool.and_eq_true] at hfl
   obtain ⟨e1, _⟩ := B7 xs vs L1 hfl.1 h8
   obtain ⟨e2, _⟩ := B7 sp us L2 hfl.2 h9
   subst e1; subst e2
   simp only [matA, Am g xs st hfl.1, Am g sp st hfl.2, St.new]
   refine ⟨by simp [hnx], fun k o hk => ?_⟩
   cases k with
   | zero => simp only [List.getElem?_cons_zero, Option.some.injEq] at hk; subst hk; simp [upd, hnx]
   | succ k => simp at hk
 | .agg cs, v, L, st, E, hE, hh, hnx, h, hs, hb => by
  simp only [ownR] at h
  obtain ⟨vs, rfl, h2⟩ := h
  obtain ⟨m1, M1, r1, f1, q1⟩ := Cg cs vs L st E hE hh hnx h2 hs hb
  exact ⟨m1, by simpa only [matA] using M1, by simp only [matA, rep]; exact ⟨vs, rfl, r1⟩, by simpa only [matA] using f1, by simpa only [matA, AV.flat] using q1⟩
 | .tup cs, v, L, st, E, hE, hh, hnx, h, hs, hb => by
  simp only [ownR] at h
  obtain ⟨vs, rfl, h2⟩ := h
  obtain ⟨m1, M1, r1, f1, q1⟩ := Cg cs vs L st E hE hh hnx h2 hs hb
  exact ⟨m1, by simpa only [matA] using M1, by simp only [matA, rep]; exact ⟨vs, rfl, r1⟩, by simpa only [matA] using f1, by simpa only [matA, AV.flat] using q1⟩
 | .undef, v, L, st, E, hE, hh, hnx, h, _, _ => by
  simp only [ownR] at h; subst h
  exact ⟨E.m, by simp only [matA]; rw [← hh, ← hnx]; exact MatOk.refl hE, by simp [matA, rep], rfl, fun _ => ⟨by simp [matA, hnx], zS⟩⟩
 | .bool b, v, L, st, E, hE, hh, hnx, h, _, _ => by
  simp only [ownR] at h; obtain ⟨rfl, h⟩ := h
  exact ⟨E.m, by simp only [matA]; rw [← hh, ← hnx]; exact MatOk.refl hE, by simp only [matA]; rw [← hh, ← hnx]; exact h, rfl, fun _ => ⟨by simp [matA, hnx], zS⟩⟩
 | .int k n, v, L, st, E, hE, hh, hnx, h, _, _ => by
  simp only [ownR] at h; obtain ⟨rfl, h⟩ := h
  exact ⟨E.m, by simp only [matA]; rw [← hh, ← hnx]; exact MatOk.refl hE, by simp only [matA]; rw [← hh, ← hnx]; exact h, rfl, fun _ => ⟨by simp [matA, hnx], zS⟩⟩
 | .str s, v, L, st, E, hE, hh, hnx, h, _, _ => by
  simp only [ownR] at h; obtain ⟨rfl, h⟩ := h
  exact ⟨E.m, by simp only [matA]; rw [← hh, ← hnx]; exact MatOk.refl hE, by simp only [matA]; rw [← hh, ← hnx]; exact h, rfl, fun _ => ⟨by simp [matA, hnx], zS⟩⟩
 | .nil, v, L, st, E, hE, hh, hnx, h, _, _ => by
  simp only [ownR] at h; obtain ⟨rfl, h⟩ := h
  exact ⟨E.m, by simp only [matA]; rw [← hh, ← hnx]; exact MatOk.refl hE, by simp only [matA]; rw [← hh, ← hnx]; exact h, rfl, fun _ => ⟨by simp [matA, hnx], zS⟩⟩
 | .sl t xs sp ex, v, L, st, E, hE, hh, hnx, h, _, _ => by
  simp only [ownR] at h; obtain ⟨rfl, _, h⟩ := h
  exact ⟨E.m, by simp only [matA]; rw [← hh, ← hnx]; exact MatOk.refl hE, by simp only [matA]; rw [← hh, ← hnx]; exact h, rfl, fun _ => ⟨by simp [matA, hnx], zS⟩⟩
 | .cptr t x j, v, L, st, E, hE, hh, hnx, h, _, _ => by
  simp only [ownR] at h; obtain ⟨rfl, _, h⟩ := h
  exact ⟨E.m, by simp only [matA]; rw [← hh, ← hnx]; exact MatOk.refl hE, by simp only [matA]; rw [← hh, ← hnx]; exact h, rfl, fun _ => ⟨by simp [matA, hnx], zS⟩⟩
 | .fn f a b, v, L, st, E, hE, hh, hnx, h, _, _ => by
  simp only [ownR] at h; obtain ⟨rfl, _, h⟩ := h
  exact ⟨E.m, by simp only [matA]; rw [← hh, ← hnx]; exact MatOk.refl hE, by simp only [matA]; rw [← hh, ← hnx]; exact h, rfl, fun _ => ⟨by simp [matA, hnx], zS⟩⟩
 | .ref .., _, _, _, _, _, _, _, h, _, _ => by simp [ownR] at h
 | .ptr .., _, _, _, _, _, _, _, h, _, _ => by simp [ownR] at h
theorem Cg {P : Program} {g : Bool} : ∀ (xs : List AV) (vs : List Value) (L : List OLoc) (st : St) (E : Env), Ok P E → E.h = st.h → E.nx = st.nx → ownRL P E xs vs L → Sep E L → (g = true → ∀ o ∈ L, o.l.base = 0) →
  ∃ m', MatOk P g E ⟨E.w, E.I, m', (matL g xs st).2.h, (matL g xs st).2.nx⟩ L ∧ repL P ⟨E.w, E.I, m', (matL g xs st).2.h, (matL g xs st).2.nx⟩ (matL g xs st).1 vs ∧ (matL g xs st).2.fr = st.fr ∧
   (AV.flatL xs = true → (matL g xs st).2.nx = E.nx + L.length ∧ ∀ k o, L[k]? = some o → m' (E.nx + k) = o.l)
 | [], vs, L, st, E, hE, hh, hnx, h, _, _ => by
  simp only [ownRL] at h; obtain ⟨rfl, rfl⟩ := h
  exact ⟨E.m, by simp only [matL]; rw [← hh, ← hnx]; exact MatOk.refl hE, by simp [matL, repL], rfl, fun _ => ⟨by simp [matL, hnx], zS⟩⟩
 | x :: xs, vs, L, st, E, hE, hh, hnx, h, hs, hb => by
  simp only [ownRL] at h
  obtain ⟨v, us, L1, L2, rfl, rfl, h3, h4⟩ := h
  obtain ⟨m1, M1, r1, f1, q1⟩ := FP x v L1 st E hE hh hnx h3 hs.left (fun hg o ho => hb hg o (by simp [ho]))
  obtain ⟨m2, M2, r2, f2, q2⟩ := Cg xs us L2 (matA g x st).2 ⟨E.w, E.I, m1, (matA g x st).2.h, (matA g x st).2.nx⟩ M1.ok rfl rfl (Br (E := E) (E' := ⟨E.w, E.I, m1, (matA g x st).2.h, (matA g x st).2.nx⟩) rfl rfl _ _ _ h4) (hs.right M1) (fun hg o ho => hb hg o (by simp [ho]))
  refine ⟨m2, by simpa only [matL] using M1.trans M2, ?_, by simp only [matL]; rw [f2, f1], ?_⟩
  ·simp only [matL, repL]
   exact ⟨v, us, rfl, CR M2.le _ _ r1, r2⟩
  ·intro hfl
   simp only [AV.flatL, Bool.and_eq_true] at hfl
   obtain ⟨n1, k1⟩ := q1 hfl.1
   obtain ⟨n2, k2⟩ := q2 hfl.2
   simp only at n2 k2
   refine ⟨by simp only [matL]; rw [n2, n1, List.length_append]; omega, fun k o hk => ?_⟩
   rcases Nat.lt_or_ge k L1.length with hlt | hge
   ·rw [List.getElem?_append_left hlt] at hk
    have := (M2.old (E.nx + k) (by show E.nx + k < (matA g x st).2.nx; omega)).1
    rw [show m2 (E.nx + k) = m1 (E.nx + k) from this]
    exact k1 k o hk
   ·rw [List.getElem?_append_right hge] at hk
    have := k2 (k - L1.length) o hk
    rw [n1] at this
    rw [← this]; congr 1; omega
end
def snapL (f : AV → Option (AV × List Nat)) : List AV → Option (List AV × List Nat)
 | [] => some ([], [])
 | x :: xs => (f x).bind fun p => (snapL f xs).bind fun q => some (p.1 :: q.1, p.2 ++ q.2)
def snapA (st : St) : Nat → AV → Option (AV × List Nat)
 | 0, v => if v.pure then some (v, []) else none
 | d + 1, v => if v.pure then some (v, []) else
  match v with
  | .ref id n off len => if (st.h id).lv ∧ (st.h id).xs.length = n ∧ off + len ≤ n then
   (snapL (snapA st d) (((st.h id).xs.drop off).take len)).bind fun p => some (.sl (st.h id).t p.1 [] false, id :: p.2) else none
  | .ptr id n i j => if (st.h id).lv ∧ (st.h id).xs.length = n then ((st.h id).xs[i]?).bind fun x => (snapA st d x).bind fun p => some (.cptr (st.h id).t p.1 j, id :: p.2) else none
  | .agg cs => (snapL (snapA st d) cs).bind fun p => some (.agg p.1, p.2)
  | .tup cs => (snapL (snapA st d) cs).bind fun p => some (.tup p.1, p.2)
  | .fn f a b => (snapL (snapA st d) a).bind fun p => (snapL (snapA st d) b).bind fun q => some (.fn f p.1 q.1, p.2 ++ q.2)
  | .sl t xs sp ex => (snapL (snapA st d) xs).bind fun p => (snapL (snapA st d) sp).bind fun q => some (.sl t p.1 q.1 ex, p.2 ++ q.2)
  | _ => none
def ownA (st : St) : Nat → AV → Option (AV × List Nat)
 | 0, v => if v.pure then some (v, []) else none
 | d + 1, v => if v.pure then some (v, []) else
  match v with
  | .ref id n off len => if (st.h id).lv ∧ (st.h id).xs.length = n ∧ off = 0 ∧ len ≤ n ∧ (st.h id).gr then
   (snapL (ownA st d) ((st.h id).xs.take len)).bind fun p => (if (st.h id).ex then snapL (ownA st d) ((st.h id).xs.drop len) else some ([], [])).bind fun q =>
    some (.own (st.h id).t p.1 q.1 (st.h id).ex, id :: (p.2 ++ q.2)) else none
  | .agg cs => (snapL (ownA st d) cs).bind fun p => some (.agg p.1, p.2)
  | .tup cs => (snapL (ownA st d) cs).bind fun p => some (.tup p.1, p.2)
  | _ => none
theorem CJ {f : AV → Option (AV × List Nat)} {x : AV} {xs : List AV} {r : List AV × List Nat} (h : snapL f (x :: xs) = some r) :
  ∃ y i ys is, f x = some (y, i) ∧ snapL f xs = some (ys, is) ∧ r = (y :: ys, i ++ is) := by
 simp only [snapL] at h
 obtain ⟨⟨y, i⟩, h1, h⟩ := Option.bind_eq_some_iff.1 h
 obtain ⟨⟨ys, is⟩, h2, h⟩ := Option.bind_eq_some_iff.1 h
 simp only [Option.some.injEq] at h
 exact ⟨y, i, ys, is, h1, h2, h.symm⟩
theorem BM {f : AV → Option (AV × List Nat)} : ∀ {xs ys : List AV} {is : List Nat}, snapL f xs = some (ys, is) → ys.length = xs.length
 | [], ys, is, h => by simp only [snapL, Option.some.injEq, Prod.mk.injEq] at h; simp [← h.1]
 | x :: xs, ys, is, h => by
  obtain ⟨y, i, ys', is', h1, h2, h3⟩ := CJ h
  simp only [Prod.mk.injEq] at h3
  rw [h3.1]; simp [BM h2]
theorem GD {f : AV → Option (AV × List Nat)} {R : AV → AV → List Nat → Prop} (hf : ∀ x y i, f x = some (y, i) → R x y i) : ∀ {xs ys : List AV} {is : List Nat}, snapL f xs = some (ys, is) →
  ∀ (k : Nat) (x y : AV), xs[k]? = some x → ys[k]? = some y → ∃ i, R x y i ∧ ∀ a ∈ i, a ∈ is
 | [], ys, is, h, k, x, y, hx, _ => by simp at hx
 | z :: xs, ys, is, h, k, x, y, hx, hy => by
  obtain ⟨y', i, ys', is', h1, h2, h3⟩ := CJ h
  simp only [Prod.mk.injEq] at h3
  obtain ⟨rfl, rfl⟩ := h3
  cases k with
  | zero => simp only [List.getElem?_cons_zero, Option.some.injEq] at hx hy; subst hx; subst hy; exact ⟨i, hf _ _ _ h1, fun a ha => List.mem_append_left _ ha⟩
  | succ k =>
   simp only [List.getElem?_cons_succ] at hx hy
   obtain ⟨j, h4, h5⟩ := GD hf h2 k x y hx hy
   exact ⟨j, h4, fun a ha => List.mem_append_right _ (h5 a ha)⟩
theorem Ij {st : St} : ∀ {d : Nat} {x y : AV} {i : List Nat}, snapA st d x = some (y, i) → x.one = true → y.one = true := by
 intro d x y i h h1
 have key : x.pure = true → some (x, ([] : List Nat)) = some (y, i) → y.one = true := fun _ e => by cases e; exact h1
 cases d with
 | zero =>
  simp only [snapA] at h
  split at h
  ·exact key ‹_› h
  ·cases h
 | succ d =>
  simp only [snapA] at h
  split at h
  ·exact key ‹_› h
  ·split at h
   ·split at h
    ·obtain ⟨p, _, h⟩ := Option.bind_eq_some_iff.1 h; cases h; rfl
    ·cases h
   ·split at h
    ·obtain ⟨p, _, h⟩ := Option.bind_eq_some_iff.1 h
     obtain ⟨q, _, h⟩ := Option.bind_eq_some_iff.1 h; cases h; rfl
    ·cases h
   ·simp [AV.one] at h1
   ·simp [AV.one] at h1
   ·obtain ⟨p, _, h⟩ := Option.bind_eq_some_iff.1 h
    obtain ⟨q, _, h⟩ := Option.bind_eq_some_iff.1 h; cases h; rfl
   ·obtain ⟨p, _, h⟩ := Option.bind_eq_some_iff.1 h
    obtain ⟨q, _, h⟩ := Option.bind_eq_some_iff.1 h; cases h; rfl
   ·cases h
theorem KV {st : St} : ∀ {d : Nat} {x y : AV} {i : List Nat}, ownA st d x = some (y, i) → x.one = true → y.one = true := by
 intro d x y i h h1
 have key : x.pure = true → some (x, ([] : List Nat)) = some (y, i) → y.one = true := fun _ e => by cases e; exact h1
 cases d with
 | zero =>
  simp only [ownA] at h
  split at h
  ·exact key ‹_› h
  ·cases h
 | succ d =>
  simp only [ownA] at h
  split at h
  ·exact key ‹_› h
  ·split at h
   ·split at h
    ·obtain ⟨p, _, h⟩ := Option.bind_eq_some_iff.1 h
     obtain ⟨q, _, h⟩ := Option.bind_eq_some_iff.1 h; cases h; rfl
    ·cases h
   ·simp [AV.one] at h1
   ·simp [AV.one] at h1
   ·cases h
theorem Mz {P : Program} {t : Nat} {f : AV → Option (AV × List Nat)} {x y : AV} (h1 : x.one = true → y.one = true)
  (h2 : ∀ cs, x = .agg cs → x.pure = true ∧ y = x ∨ ∃ p, snapL f cs = some p ∧ y = .agg p.1) (hf : ∀ a b j, f a = some (b, j) → a.one = true → b.one = true) (h : x.el P t = true) : y.el P t = true := by
 have e1 := CI h
 have e2 := D8 h
 by_cases ha : ∃ cs, x = .agg cs
 ·obtain ⟨cs, rfl⟩ := ha
  rcases h2 cs rfl with ⟨_, rfl⟩ | ⟨⟨ys, is⟩, hp, rfl⟩
  ·exact h
  ·simp only [AV.cells] at e1 e2
   refine PV (by rw [BM hp, e1]) fun c hc => ?_
   obtain ⟨k, hk⟩ := List.getElem?_of_mem hc
   have hlt : k < cs.length := by
    rw [← BM hp]
    rcases Nat.lt_or_ge k ys.length with h' | h'
    ·exact h'
    ·rw [List.getElem?_eq_none h'] at hk; cases hk
   obtain ⟨j, hR, _⟩ := GD (R := fun a b _ => a.one = true → b.one = true) hf hp k _ _ (List.getElem?_eq_getElem hlt) hk
   exact hR (e2 _ (List.getElem_mem hlt))
 ·have hx : x.cells = [x] := by cases x <;> simp_all [AV.cells]
  rw [hx] at e1 e2
  have ho := h1 (e2 x zS)
  have hm := Ib ho
  unfold AV.el; rw [Bool.and_eq_true]
  exact ⟨decide_eq_true (by rw [hm]; simpa using e1), List.all_eq_true.2 (by rw [hm]; simpa using ho)⟩
theorem Fj {P : Program} {st : St} {d t : Nat} {x y : AV} {i : List Nat} (h : snapA st d x = some (y, i)) (he : x.el P t = true) : y.el P t = true := by
 cases d with
 | zero =>
  simp only [snapA] at h
  split at h
  ·cases h; exact he
  ·cases h
 | succ d =>
  refine Mz (f := snapA st d) (Ij h) (fun cs hcs => ?_) (fun a b j hab => Ij hab) he
  subst hcs
  simp only [snapA] at h
  split at h
  ·cases h; exact .inl ⟨‹_›, rfl⟩
  ·obtain ⟨p, hp, h⟩ := Option.bind_eq_some_iff.1 h; cases h; exact .inr ⟨p, hp, rfl⟩
theorem M0 {P : Program} {st : St} {d t : Nat} {x y : AV} {i : List Nat} (h : ownA st d x = some (y, i)) (he : x.el P t = true) : y.el P t = true := by
 cases d with
 | zero =>
  simp only [ownA] at h
  split at h
  ·cases h; exact he
  ·cases h
 | succ d =>
  refine Mz (f := ownA st d) (KV h) (fun cs hcs => ?_) (fun a b j hab => KV hab) he
  subst hcs
  simp only [ownA] at h
  split at h
  ·cases h; exact .inl ⟨‹_›, rfl⟩
  ·obtain ⟨p, hp, h⟩ := Option.bind_eq_some_iff.1 h; cases h; exact .inr ⟨p, hp, rfl⟩
theorem EW {P : Program} {t : Nat} {f : AV → Option (AV × List Nat)} (hf : ∀ x y i, f x = some (y, i) → x.el P t = true → y.el P t = true) {xs ys : List AV} {is : List Nat} (h : snapL f xs = some (ys, is))
  (he : ∀ x ∈ xs, x.el P t = true) : ∀ y ∈ ys, y.el P t = true := by
 intro y hy
 obtain ⟨k, hk⟩ := List.getElem?_of_mem hy
 have hlt : k < xs.length := by
  rw [← BM h]
  rcases Nat.lt_or_ge k ys.length with h' | h'
  ·exact h'
  ·rw [List.getElem?_eq_none h'] at hk; cases hk
 obtain ⟨j, hR, _⟩ := GD (R := fun a b _ => a.el P t = true → b.el P t = true) hf h k _ _ (List.getElem?_eq_getElem hlt) hk
 exact hR (he _ (List.getElem_mem hlt))
def Env.shut (E : Env) (ids : List Nat) : Env := ⟨E.w, fun b => E.I b ∨ ∃ id ∈ ids, (E.h id).lv = true ∧ (E.m id).b = b, E.m, E.h, E.nx⟩
theorem Et {P : Program} {E : Env} {A B : List Nat} (h : ∀ a ∈ A, a ∈ B) {x : AV} {v : Value} (hp : x.pure = true) (hr : rep P (E.shut A) x v) : rep P (E.shut B) x v :=
 Bj (E := E.shut A) (E' := E.shut B) (fun b hb => ⟨Or.imp id (fun ⟨i, hi, h1⟩ => ⟨i, h i hi, h1⟩) hb, rfl⟩) x v hp hr
theorem CK {P : Program} {E : Env} {A B : List Nat} (h : ∀ a ∈ A, a ∈ B) {x : List AV} {v : List Value} (hp : AV.pureL x = true) (hr : repL P (E.shut A) x v) : repL P (E.shut B) x v :=
 BP (E := E.shut A) (E' := E.shut B) (fun b hb => ⟨Or.imp id (fun ⟨i, hi, h1⟩ => ⟨i, h i hi, h1⟩) hb, rfl⟩) x v hp hr
theorem Ge {P : Program} {E : Env} {f : AV → Option (AV × List Nat)} (hf : ∀ x y i u, f x = some (y, i) → rep P E x u → y.pure = true ∧ rep P (E.shut i) y u ∧ ∀ a ∈ i, (E.h a).lv = true) :
  ∀ {xs ys : List AV} {is : List Nat} {us : List Value}, snapL f xs = some (ys, is) → repL P E xs us → AV.pureL ys = true ∧ repL P (E.shut is) ys us ∧ ∀ a ∈ is, (E.h a).lv = true
 | [], ys, is, us, h, hr => by
  simp only [snapL, Option.some.injEq, Prod.mk.injEq] at h
  obtain ⟨rfl, rfl⟩ := h
  exact ⟨rfl, by simpa [repL] using hr, zS⟩
 | x :: xs, ys, is, us, h, hr => by
  obtain ⟨y, i, ys', is', h1, h2, h3⟩ := CJ h
  simp only [Prod.mk.injEq] at h3
  obtain ⟨rfl, rfl⟩ := h3
  simp only [repL] at hr
  obtain ⟨u, us', rfl, h4, h5⟩ := hr
  obtain ⟨a1, a2, a3⟩ := hf x y i u h1 h4
  obtain ⟨b1, b2, b3⟩ := Ge hf h2 h5
  refine ⟨by simp [AV.pureL, a1, b1], ?_, fun a ha => (List.mem_append.1 ha).elim (a3 a) (b3 a)⟩
  simp only [repL]
  exact ⟨u, us', rfl, Et (fun a ha => List.mem_append_left _ ha) a1 a2, CK (fun a ha => List.mem_append_right _ ha) b1 b2⟩
theorem C1 {P : Program} {E : Env} {st : St} (hE : Ok P E) (hh : st.h = E.h) : ∀ (d : Nat) (x y : AV) (ids : List Nat) (u : Value), snapA st d x = some (y, ids) → rep P E x u →
  y.pure = true ∧ rep P (E.shut ids) y u ∧ ∀ a ∈ ids, (E.h a).lv = true := by
 have base : ∀ (x y : AV) (ids : List Nat) (u : Value), x.pure = true → some (x, ([] : List Nat)) = some (y, ids) → rep P E x u → y.pure = true ∧ rep P (E.shut ids) y u ∧ ∀ a ∈ ids, (E.h a).lv = true := by
  intro x y ids u hp h hr
  cases h
  exact ⟨hp, Bj (E := E) (E' := E.shut []) (fun b hb => ⟨Or.inl hb, rfl⟩) _ _ hp hr, zS⟩
 intro d
 induction d with
 | zero =>
  intro x y ids u h hr
  simp only [snapA] at h
  split at h
  ·exact base x y ids u ‹_› h hr
  ·cases h
 | succ d ih =>
  intro x y ids u h hr
  have ihL := fun {xs ys is us} => Ge (f := snapA st d) (P := P) (E := E) (fun x y i u h1 h2 => ih x y i u h1 h2) (xs := xs) (ys := ys) (is := is) (us := us)
  simp only [snapA] at h
  split at h
  ·exact base x y ids u ‹_› h hr
  ·split at h
   ·rename_i id n off len _
    split at h
    ·rename_i hc
     rw [hh] at hc h
     obtain ⟨⟨ys, is⟩, h1, h⟩ := Option.bind_eq_some_iff.1 h
     cases h
     obtain ⟨hlv, hn, hle⟩ := hc
     have B := hE.blk id hlv
     obtain ⟨c, vs, hb, hrl, hca, hcs⟩ := B.at_
     simp only [rep] at hr
     obtain ⟨hid, hnl, ad, k, rfl, hr⟩ := hr
     obtain ⟨g1, g2, g3⟩ := hr hlv hn
     have hBle := B.le
     obtain ⟨a1, a2, a3⟩ := ihL h1 (BV (BO hrl off) len)
     have hyl : ys.length = len := by rw [BM h1, List.length_take, List.length_drop]; omega
     refine ⟨by simp [AV.pure, a1, AV.pureL], ?_, fun a ha => ?_⟩
     ·simp only [rep]
      refine ⟨some ad, k, by rw [hyl], by rw [hyl]; simp; omega, zS, ?_, (vs.drop off).take len, [], CK (fun a ha => List.mem_cons_of_mem _ ha) a1 a2, by simp [repL], fun hne => ?_⟩
      ·rw [List.append_nil]
       exact EW (fun x y i h he => Fj h he) h1 (fun x hx => B.cl x (List.mem_of_mem_drop (List.mem_of_mem_take hx)))
      ·rw [hyl] at hne
       simp only [List.length_nil, Nat.add_zero] at hne
       cases g3 zO
       refine ⟨(E.m id).b, _, c, ((E.h id).t, (0, 0)), rfl, .inr ⟨id, List.mem_cons_self .., hlv, rfl⟩, hb, ?_⟩
       rw [List.append_nil]
       exact (hca.drop off).take len
     ·rcases List.mem_cons.1 ha with rfl | ha
      ·exact hlv
      ·exact a3 a ha
    ·cases h
   ·rename_i id n i j _
    split at h
    ·rename_i hc
     rw [hh] at hc h
     obtain ⟨hlv, hn⟩ := hc
     obtain ⟨x, hx, h⟩ := Option.bind_eq_some_iff.1 h
     obtain ⟨⟨z, is⟩, h1, h⟩ := Option.bind_eq_some_iff.1 h
     cases h
     have B := hE.blk id hlv
     obtain ⟨c, vs, hb, hrl, hca, hcs⟩ := B.at_
     obtain ⟨w, hw, hwr⟩ := BI hrl i x hx
     simp only [rep] at hr
     obtain ⟨hid, hnl, ad, rfl, hr⟩ := hr
     obtain ⟨a1, a2, a3⟩ := ih x z is w h1 hwr
     have hxe := B.cl x (List.mem_of_getElem? hx)
     have hze := Fj h1 hxe
     refine ⟨by simp [AV.pure, a1], ?_, fun a ha => ?_⟩
     ·simp only [rep]
      refine ⟨(E.m id).b, (E.m id).base + i * szT P (E.h id).t, c, ((E.h id).t, (0, 0)), w, by rw [hr hlv hn], .inr ⟨id, List.mem_cons_self .., hlv, rfl⟩, hb, Et (fun a ha => List.mem_cons_of_mem _ ha) a1 a2, ?_, hca.get hw⟩
      rw [CI hze, CF hwr hxe]
     ·rcases List.mem_cons.1 ha with rfl | ha
      ·exact hlv
      ·exact a3 a ha
    ·cases h
   ·obtain ⟨⟨ys, is⟩, h1, h⟩ := Option.bind_eq_some_iff.1 h
    cases h
    simp only [rep] at hr
    obtain ⟨vs, rfl, hvs⟩ := hr
    obtain ⟨a1, a2, a3⟩ := ihL h1 hvs
    exact ⟨by simpa [AV.pure] using a1, by simp only [rep]; exact ⟨vs, rfl, a2⟩, a3⟩
   ·obtain ⟨⟨ys, is⟩, h1, h⟩ := Option.bind_eq_some_iff.1 h
    cases h
    simp only [rep] at hr
    obtain ⟨vs, rfl, hvs⟩ := hr
    obtain ⟨a1, a2, a3⟩ := ihL h1 hvs
    exact ⟨by simpa [AV.pure] using a1, by simp only [rep]; exact ⟨vs, rfl, a2⟩, a3⟩
   ·obtain ⟨⟨ys, is⟩, h1, h⟩ := Option.bind_eq_some_iff.1 h
    obtain ⟨⟨zs, js⟩, h2, h⟩ := Option.bind_eq_some_iff.1 h
    cases h
    simp only [rep] at hr
    obtain ⟨vs, us, rfl, hvs, hus⟩ := hr
    obtain ⟨a1, a2, a3⟩ := ihL h1 hvs
    obtain ⟨b1, b2, b3⟩ := ihL h2 hus
    refine ⟨by simp [AV.pure, a1, b1], ?_, fun a ha => (List.mem_append.1 ha).elim (a3 a) (b3 a)⟩
    simp only [rep]
    exact ⟨vs, us, rfl, CK (fun a ha => List.mem_append_left _ ha) a1 a2, CK (fun a ha => List.mem_append_right _ ha) b1 b2⟩
   ·rename_i t xs sp ex _
    obtain ⟨⟨ys, is⟩, h1, h⟩ := Option.bind_eq_some_iff.1 h
    obtain ⟨⟨zs, js⟩, h2, h⟩ := Option.bind_eq_some_iff.1 h
    cases h
    simp only [rep] at hr
    obtain ⟨a, cap, rfl, hk1, hk2, hcl, vs, us, hvs, hus, hne⟩ := hr
    obtain ⟨a1, a2, a3⟩ := ihL h1 hvs
    obtain ⟨b1, b2, b3⟩ := ihL h2 hus
    have e1 := BM h1
    have e2 := BM h2
    refine ⟨by simp [AV.pure, a1, b1], ?_, fun a ha => (List.mem_append.1 ha).elim (a3 a) (b3 a)⟩
    simp only [rep]
    refine ⟨a, cap, by rw [e1], by rw [e1, e2]; exact hk1, by rw [e1, e2]; exact hk2, fun y hy => ?_, vs, us, CK (fun a ha => List.mem_append_left _ ha) a1 a2, CK (fun a ha => List.mem_append_right _ ha) b1 b2, fun hn => ?_⟩
    ·rcases List.mem_append.1 hy with hy | hy
     ·exact EW (fun x y i h he => Fj h he) h1 (fun x hx => hcl x (List.mem_append_left _ hx)) y hy
     ·exact EW (fun x y i h he => Fj h he) h2 (fun x hx => hcl x (List.mem_append_right _ hx)) y hy
    ·obtain ⟨b, off, c, fz, g1, g2, g3, g4⟩ := hne (by rw [e1, e2] at hn; exact hn)
     exact ⟨b, off, c, fz, g1, .inl g2, g3, g4⟩
   ·cases h
theorem HK {P : Program} {E : Env} {f : AV → Option (AV × List Nat)} (hf : ∀ x y i u, f x = some (y, i) → rep P E x u → ∃ L : List OLoc, ownR P E y u L ∧ (∀ a ∈ i, (E.h a).lv = true ∧ (E.h a).gr = true) ∧ L.map (·.l) = i.map E.m ∧ ∀ o ∈ L, ∃ a ∈ i, o.l = E.m a ∧ o.t = (E.h a).t ∧ o.n ≤ (E.h a).xs.length) :
  ∀ {xs ys : List AV} {is : List Nat} {us : List Value}, snapL f xs = some (ys, is) → repL P E xs us → ∃ L : List OLoc, ownRL P E ys us L ∧ (∀ a ∈ is, (E.h a).lv = true ∧ (E.h a).gr = true) ∧ L.map (·.l) = is.map E.m ∧ ∀ o ∈ L, ∃ a ∈ is, o.l = E.m a ∧ o.t = (E.h a).t ∧ o.n ≤ (E.h a).xs.length
 | [], ys, is, us, h, hr => by
  simp only [snapL, Option.some.injEq, Prod.mk.injEq] at h
  obtain ⟨rfl, rfl⟩ := h
  simp only [repL] at hr; subst hr
  exact ⟨[], by simp [ownRL], zS, rfl, zS⟩
 | x :: xs, ys, is, us, h, hr => by
  obtain ⟨y, i, ys', is', h1, h2, h3⟩ := CJ h
  simp only [Prod.mk.injEq] at h3
  obtain ⟨rfl, rfl⟩ := h3
  simp only [repL] at hr
  obtain ⟨u, us', rfl, h4, h5⟩ := hr
  obtain ⟨L1, a1, a2, a3, a4⟩ := hf x y i u h1 h4
  obtain ⟨L2, b1, b2, b3, b4⟩ := HK hf h2 h5
  refine ⟨L1 ++ L2, by simp only [ownRL]; exact ⟨u, us', L1, L2, rfl, rfl, a1, b1⟩, fun a ha => (List.mem_append.1 ha).elim (a2 a) (b2 a), by simp [a3, b3], fun o ho => ?_⟩
  rcases List.mem_append.1 ho with ho | ho
  ·obtain ⟨a, ha, h⟩ := a4 o ho; exact ⟨a, List.mem_append_left _ ha, h⟩
  ·obtain ⟨a, ha, h⟩ := b4 o ho; exact ⟨a, List.mem_append_right _ ha, h⟩
theorem FQ {P : Program} {E : Env} {st : St} (hE : Ok P E) (hh : st.h = E.h) : ∀ (d : Nat) (x y : AV) (ids : List Nat) (u : Value), ownA st d x = some (y, ids) → rep P E x u →
  ∃ L : List OLoc, ownR P E y u L ∧ (∀ a ∈ ids, (E.h a).lv = true ∧ (E.h a).gr = true) ∧ L.map (·.l) = ids.map E.m ∧ ∀ o ∈ L, ∃ a ∈ ids, o.l = E.m a ∧ o.t = (E.h a).t ∧ o.n ≤ (E.h a).xs.length := by
 have base : ∀ (x y : AV) (ids : List Nat) (u : Value), x.pure = true → some (x, ([] : List Nat)) = some (y, ids) → rep P E x u →
   ∃ L : List OLoc, ownR P E y u L ∧ (∀ a ∈ ids, (E.h a).lv = true ∧ (E.h a).gr = true) ∧ L.map (·.l) = ids.map E.m ∧ ∀ o ∈ L, ∃ a ∈ ids, o.l = E.m a ∧ o.t = (E.h a).t ∧ o.n ≤ (E.h a).xs.length := by
  intro x y ids u hp h hr
  cases h
  exact ⟨[], Bw _ _ hp hr, zS, rfl, zS⟩
 intro d
 induction d with
 | zero =>
  intro x y ids u h hr
  simp only [ownA] at h
  split at h
  ·exact base x y ids u ‹_› h hr
  ·cases h
 | succ d ih =>
  intro x y ids u h hr
  have ihL := fun {xs ys is us} => HK (f := ownA st d) (P := P) (E := E) (fun x y i u h1 h2 => ih x y i u h1 h2) (xs := xs) (ys := ys) (is := is) (us := us)
  simp only [ownA] at h
  split at h
  ·exact base x y ids u ‹_› h hr
  ·split at h
   ·rename_i id n off len _
    split at h
    ·rename_i hc
     rw [hh] at hc h
     obtain ⟨⟨ys, is⟩, h1, h⟩ := Option.bind_eq_some_iff.1 h
     obtain ⟨⟨zs, js⟩, h2, h⟩ := Option.bind_eq_some_iff.1 h
     cases h
     obtain ⟨hlv, hn, rfl, hle, hgr⟩ := hc
     have B := hE.blk id hlv
     obtain ⟨c, vs, hb, hrl, hca, hcs⟩ := B.at_
     simp only [rep] at hr
     obtain ⟨hid, hnl, ad, k, rfl, hr⟩ := hr
     obtain ⟨g1, g2, g3⟩ := hr hlv hn
     have hBle := B.le
     have hel := fun x hx => EW (P := P) (t := (E.h id).t) (fun x y i h he => M0 h he) h1 (fun x hx => B.cl x (List.mem_of_mem_take hx)) x hx
     obtain ⟨L1, a1, a2, a3, a4⟩ := ihL h1 (BV hrl len)
     have hyl : ys.length = len := by rw [BM h1, List.length_take]; omega
     rw [Nat.sub_zero] at g2
     have had : (E.m id).cap ≠ 0 → ad = ⟨(E.m id).b, (E.m id).base, none⟩ := fun h => by
      have := g3 zO; simpa using this
     by_cases hex : (E.h id).ex = true
     ·rw [if_pos hex] at h2
      have hel2 := fun x hx => EW (P := P) (t := (E.h id).t) (fun x y i h he => M0 h he) h2 (fun x hx => B.cl x (List.mem_of_mem_drop hx)) x hx
      obtain ⟨L2, b1, b2, b3, b4⟩ := ihL h2 (BO hrl len)
      have hzl : zs.length = n - len := by rw [BM h2, List.length_drop, hn]
      have hcap := B.ex hex
      refine ⟨⟨E.m id, (E.h id).t, ys.length + zs.length⟩ :: (L1 ++ L2), ?_, fun a ha => ?_, by simp [a3, b3], fun o ho => ?_⟩
      ·simp only [ownR]
       refine ⟨E.m id, L1, L2, vs.take len, vs.drop len, c, ad, rfl, by rw [hyl, g2], had, B.dark, zO, fun _ => by omega, fun x hx => (List.mem_append.1 hx).elim (hel x) (hel2 x), a1, b1, hb, by rw [List.take_append_drop]; exact hca, hcs⟩
      ·rcases List.mem_cons.1 ha with rfl | ha
       ·exact ⟨hlv, hgr⟩
       ·exact (List.mem_append.1 ha).elim (a2 a) (b2 a)
      ·rcases List.mem_cons.1 ho with rfl | ho
       ·exact ⟨id, List.mem_cons_self .., rfl, rfl, zT⟩
       ·rcases List.mem_append.1 ho with ho | ho
        ·obtain ⟨a, ha, h⟩ := a4 o ho; exact ⟨a, by simp [ha], h⟩
        ·obtain ⟨a, ha, h⟩ := b4 o ho; exact ⟨a, by simp [ha], h⟩
     ·rw [if_neg hex] at h2
      cases h2
      refine ⟨⟨E.m id, (E.h id).t, ys.length + 0⟩ :: (L1 ++ []), ?_, fun a ha => ?_, by simp [a3], fun o ho => ?_⟩
      ·simp only [ownR]
       refine ⟨E.m id, L1, [], vs.take len, [], c, ad, rfl, by rw [hyl, g2], had, B.dark, zW, fun h => absurd h hex, fun x hx => hel x (by simpa using hx), a1, by simp [ownRL], hb, by rw [List.append_nil]; exact hca.take len, hcs⟩
      ·rcases List.mem_cons.1 ha with rfl | ha
       ·exact ⟨hlv, hgr⟩
       ·exact a2 a (by simpa using ha)
      ·rcases List.mem_cons.1 ho with rfl | ho
       ·exact ⟨id, List.mem_cons_self .., rfl, rfl, zT⟩
       ·obtain ⟨a, ha, h⟩ := a4 o (by simpa using ho); exact ⟨a, by simp [ha], h⟩
    ·cases h
   ·obtain ⟨⟨ys, is⟩, h1, h⟩ := Option.bind_eq_some_iff.1 h
    cases h
    simp only [rep] at hr
    obtain ⟨vs, rfl, hvs⟩ := hr
    obtain ⟨L, a1, a2⟩ := ihL h1 hvs
    exact ⟨L, by simp only [ownR]; exact ⟨vs, rfl, a1⟩, a2⟩
   ·obtain ⟨⟨ys, is⟩, h1, h⟩ := Option.bind_eq_some_iff.1 h
    cases h
    simp only [rep] at hr
    obtain ⟨vs, rfl, hvs⟩ := hr
    obtain ⟨L, a1, a2⟩ := ihL h1 hvs
    exact ⟨L, by simp only [ownR]; exact ⟨vs, rfl, a1⟩, a2⟩
   ·cases h
def bare (w : World) (I : Nat → Prop) : Env := ⟨w, I, fun _ => ⟨0, 0, 0⟩, fun _ => Blk.dead, 0⟩
structure Ini (P : Program) (w : World) (I : Nat → Prop) : Prop where
 lt : ∀ b, I b → b < w.heap.size
 tab : Tab P w I
theorem R5 {P : Program} {w : World} {I : Nat → Prop} (h : Ini P w I) : Ok P (bare w I) :=
 ⟨fun id hlv => by simp [bare, Blk.dead] at hlv, fun i j hi => by simp [bare, Blk.dead] at hi, h.lt, h.tab⟩
structure Frm (P : Program) (w w' : World) (L : List OLoc) : Prop where
 os : w'.os = w.os
 tape : w'.tape = w.tape
 output : w'.output = w.output
 size : w.heap.size ≤ w'.heap.size
 same : ∀ b, b < w.heap.size → (∀ o ∈ L, o.l.b ≠ b) → w'.heap[b]? = w.heap[b]?
 part : ∀ o ∈ L, ∀ c, w.heap[o.l.b]? = some (.cells c o.t (0, 0)) → ∃ c', w'.heap[o.l.b]? = some (.cells c' o.t (0, 0)) ∧ c'.size = c.size ∧
  ∀ j, (j < o.l.base ∨ o.l.base + o.n * szT P o.t ≤ j) → c'[j]? = c[j]?
def outOk (P : Program) (E : Env) (o : OLoc) (ys : List AV) : Prop :=
 ys.length = o.n ∧ AV.pureL ys = true ∧ (∀ y ∈ ys, y.el P o.t = true) ∧ ∃ c vs, E.w.heap[o.l.b]? = some (.cells c o.t (0, 0)) ∧ repL P E ys vs ∧ CellsAt c o.l.base (szT P o.t) vs
def CallOk (P : Program) (f : FuncId) (args : List AV) (r : AV) (outs : List (List AV)) : Prop :=
 ∀ (w : World) (I : Nat → Prop) (vs : List Value) (L : List OLoc), Ini P w I → ownRL P (bare w I) args vs L → (L.map (·.l.b)).Nodup →
  Calls P f vs.toArray w fun e w' => ∃ v I' L', e = .returned v ∧ Frm P w w' L ∧ (∀ b, I b → I' b) ∧ (∀ b, I' b → I b ∨ w.heap.size ≤ b) ∧ (∀ b, I' b → b < w'.heap.size) ∧
   ownR P (bare w' I') r v L' ∧ (L'.map (·.l.b)).Nodup ∧ (∀ o ∈ L', w.heap.size ≤ o.l.b ∧ o.l.base = 0) ∧
   (outs = [] ∨ outs.length = L.length ∧ ∀ (k : Nat) (o : OLoc) (ys : List AV), L[k]? = some o → outs[k]? = some ys → outOk P (bare w' I') o ys)
mutual
theorem DU {P : Program} {E E' : Env} (hw : E'.w = E.w) : ∀ (x : AV) (v : Value), x.pure = true → (x.solid = true ∨ ∀ b, E.I b → E'.I b) → rep P E x v → rep P E' x v
 | .undef, _, _, _, _ => by simp [rep]
 | .bool b, v, _, _, h => by simpa [rep] using h
 | .int k n, v, _, _, h => by simpa [rep] using h
 | .str s, v, _, _, h => by simpa [rep] using h
 | .nil, v, _, _, h => by simpa [rep] using h
 | .sl t xs sp ex, v, hp, hI, h => by
  simp only [AV.pure, Bool.and_eq_true] at hp
  have hI : ∀ b, E.I b → E'.I b := hI.resolve_left (by simp [AV.solid])
  simp only [rep] at h ⊢
  obtain ⟨a, cap, h1, h2, h3, h7, vs, us, h4, h5, h6⟩ := h
  refine ⟨a, cap, h1, h2, h3, h7, vs, us, Bb hw xs vs hp.1 (.inr hI) h4, Bb hw sp us hp.2 (.inr hI) h5, fun hne => ?_⟩
  obtain ⟨b, off, c, fz, g1, g2, g3, g4⟩ := h6 hne
  exact ⟨b, off, c, fz, g1, hI b g2, by rw [hw]; exact g3, g4⟩
 | .ref .., _, hp, _, _ => by simp [AV.pure] at hp
 | .own .., _, hp, _, _ => by simp [AV.pure] at hp
 | .ptr .., _, hp, _, _ => by simp [AV.pure] at hp
 | .cptr t x j, v, hp, hI, h => by
  simp only [AV.pure] at hp
  have hI : ∀ b, E.I b → E'.I b := hI.resolve_left (by simp [AV.solid])
  simp only [rep] at h ⊢
  obtain ⟨b, off, c, fz, u, h1, h2, h3, h4, h6, h5⟩ := h
  exact ⟨b, off, c, fz, u, h1, hI b h2, by rw [hw]; exact h3, DU hw x u hp (.inr hI) h4, h6, h5⟩
 | .fn f first cap, v, hp, hI, h => by
  simp only [AV.pure, Bool.and_eq_true] at hp
  have hI : ∀ b, E.I b → E'.I b := hI.resolve_left (by simp [AV.solid])
  simp only [rep] at h ⊢
  obtain ⟨vs, us, h1, h2, h3⟩ := h
  exact ⟨vs, us, h1, Bb hw first vs hp.1 (.inr hI) h2, Bb hw cap us hp.2 (.inr hI) h3⟩
 | .agg cs, v, hp, hI, h => by
  simp only [AV.pure] at hp
  simp only [rep] at h ⊢
  obtain ⟨vs, h1, h2⟩ := h
  exact ⟨vs, h1, Bb hw cs vs hp (hI.imp (fun h => by simpa [AV.solid] using h) id) h2⟩
 | .tup xs, v, hp, hI, h => by
  simp only [AV.pure] at hp
  simp only [rep] at h ⊢
  obtain ⟨vs, h1, h2⟩ := h
  exact ⟨vs, h1, Bb hw xs vs hp (hI.imp (fun h => by simpa [AV.solid] using h) id) h2⟩
theorem Bb {P : Program} {E E' : Env} (hw : E'.w = E.w) : ∀ (xs : List AV) (vs : List Value), AV.pureL xs = true → (AV.solidL xs = true ∨ ∀ b, E.I b → E'.I b) → repL P E xs vs → repL P E' xs vs
 | [], vs, _, _, h => by simpa [repL] using h
 | x :: xs, vs, hp, hI, h => by
  simp only [AV.pureL, Bool.and_eq_true] at hp
  simp only [AV.solidL, Bool.and_eq_true] at hI
  simp only [repL] at h ⊢
  obtain ⟨v, us, h1, h2, h3⟩ := h
  exact ⟨v, us, h1, DU hw x v hp.1 (hI.imp (·.1) id) h2, Bb hw xs us hp.2 (hI.imp (·.2) id) h3⟩
end
mutual
theorem Gf {P : Program} {E E' : Env} (hw : E'.w = E.w) (hsub : ∀ b, E'.I b → E.I b) : ∀ (x : AV) (v : Value) (L : List OLoc), (x.solid = true ∨ ∀ b, E.I b → E'.I b) → ownR P E x v L → ownR P E' x v L
 | .own t xs sp ex, v, L, hI, h => by
  simp only [AV.solid, Bool.and_eq_true] at hI
  simp only [ownR] at h ⊢
  obtain ⟨l, L1, L2, vs, us, c, ad, h1, h2, h3, h4, h5, h6, h7, h8, h9, h10, h11⟩ := h
  exact ⟨l, L1, L2, vs, us, c, ad, h1, h2, h3, fun h => h4 (hsub _ h), h5, h6, h7,
   CT hw hsub xs vs L1 (hI.imp (·.1) id) h8, CT hw hsub sp us L2 (hI.imp (·.2) id) h9, by rw [hw]; exact h10, h11⟩
 | .agg cs, v, L, hI, h => by
  simp only [ownR] at h ⊢; obtain ⟨vs, h1, h2⟩ := h
  exact ⟨vs, h1, CT hw hsub cs vs L (hI.imp (fun h => by simpa [AV.solid] using h) id) h2⟩
 | .tup cs, v, L, hI, h => by
  simp only [ownR] at h ⊢; obtain ⟨vs, h1, h2⟩ := h
  exact ⟨vs, h1, CT hw hsub cs vs L (hI.imp (fun h => by simpa [AV.solid] using h) id) h2⟩
 | .undef, v, L, _, h => by simpa [ownR] using h
 | .bool b, v, L, _, h => by simpa [ownR, rep] using h
 | .int k n, v, L, _, h => by simpa [ownR, rep] using h
 | .str s, v, L, _, h => by simpa [ownR, rep] using h
 | .nil, v, L, _, h => by simpa [ownR, rep] using h
 | .sl t xs sp ex, v, L, hI, h => by simp only [ownR] at h ⊢; exact ⟨h.1, h.2.1, DU hw _ _ h.2.1 hI h.2.2⟩
 | .cptr t x j, v, L, hI, h => by simp only [ownR] at h ⊢; exact ⟨h.1, h.2.1, DU hw _ _ h.2.1 hI h.2.2⟩
 | .fn f a b, v, L, hI, h => by simp only [ownR] at h ⊢; exact ⟨h.1, h.2.1, DU hw _ _ h.2.1 hI h.2.2⟩
 | .ref .., v, L, _, h => by simp [ownR] at h
 | .ptr .., v, L, _, h => by simp [ownR] at h
theorem CT {P : Program} {E E' : Env} (hw : E'.w = E.w) (hsub : ∀ b, E'.I b → E.I b) : ∀ (xs : List AV) (vs : List Value) (L : List OLoc), (AV.solidL xs = true ∨ ∀ b, E.I b → E'.I b) → ownRL P E xs vs L → ownRL P E' xs vs L
 | [], vs, L, _, h => by simpa [ownRL] using h
 | x :: xs, vs, L, hI, h => by
  simp only [AV.solidL, Bool.and_eq_true] at hI
  simp only [ownRL] at h ⊢
  obtain ⟨v, us, L1, L2, h1, h2, h3, h4⟩ := h
  exact ⟨v, us, L1, L2, h1, h2, Gf hw hsub x v L1 (hI.imp (·.1) id) h3, CT hw hsub xs us L2 (hI.imp (·.2) id) h4⟩
end
inductive PM where
 | snap | io | eat
def passA (st : St) : PM → AV → Option (AV × List Nat × List (Nat × Nat × Nat) × List Nat)
 | .snap, a => (snapA st 8 a).map fun p => (p.1, p.2, [], [])
 | .io, .ref id n off len => if (st.h id).lv ∧ (st.h id).xs.length = n ∧ off + len ≤ n ∧ len ≠ 0 ∧ AV.pureL (((st.h id).xs.drop off).take len) then
  some (.own (st.h id).t (((st.h id).xs.drop off).take len) [] false, [], [(id, off, len)], []) else none
 | .io, _ => none
 | .eat, a => (ownA st 8 a).map fun p => (p.1, [], [], p.2)
def passL (st : St) : List PM → List AV → Option (List AV × List Nat × List (Nat × Nat × Nat) × List Nat)
 | [], [] => some ([], [], [], [])
 | m :: ms, a :: as0 => (passA st m a).bind fun p => (passL st ms as0).bind fun q => some (p.1 :: q.1, p.2.1 ++ q.2.1, p.2.2.1 ++ q.2.2.1, p.2.2.2 ++ q.2.2.2)
 | _, _ => none
def outH (h : Nat → Blk) : List (Nat × Nat × Nat) → List (List AV) → Nat → Blk
 | (id, off, len) :: os, ys :: yss => outH (upd h id { h id with xs := (h id).xs.take off ++ ys ++ (h id).xs.drop (off + len) }) os yss
 | _, _ => h
def eatH (h : Nat → Blk) (ids : List Nat) : Nat → Blk := fun i => if i ∈ ids then { h i with lv := false } else h i
structure CallStep (P : Program) (st : St) (g : FuncId) (as0 : List AV) (x : AV) (st' : St) : Prop where
 ex : ∃ pm sargs sids io eat r outs, passL st pm as0 = some (sargs, sids, io, eat) ∧ CallOk P g sargs r outs ∧
  (io.map (·.1) ++ eat).Nodup ∧ (∀ i ∈ sids, i ∉ io.map (·.1) ++ eat) ∧ (sids = [] ∨ r.solid = true ∧ AV.solidL outs.flatten = true) ∧
  (io = [] ∨ eat = [] ∧ outs.length = io.length) ∧
  (x, st') = matA true r { st with h := eatH (outH st.h io outs) eat }
mutual
theorem Ik {P : Program} {E E' : Env} (hw : E'.w = E.w) (hsub : ∀ b, E.I b → E'.I b) : ∀ (x : AV) (v : Value) (L : List OLoc), (∀ o ∈ L, ¬ E'.I o.l.b) → ownR P E x v L → ownR P E' x v L
 | .own t xs sp ex, v, L, hL, h => by
  simp only [ownR] at h ⊢
  obtain ⟨l, L1, L2, vs, us, c, ad, rfl, h2, h3, h4, h5, h6, h7, h8, h9, h10, h11⟩ := h
  exact ⟨l, L1, L2, vs, us, c, ad, rfl, h2, h3, hL ⟨l, t, xs.length + sp.length⟩ zS, h5, h6, h7,
   DV hw hsub xs vs L1 (fun o ho => hL o (by simp [ho])) h8, DV hw hsub sp us L2 (fun o ho => hL o (by simp [ho])) h9, by rw [hw]; exact h10, h11⟩
 | .agg cs, v, L, hL, h => by simp only [ownR] at h ⊢; obtain ⟨vs, h1, h2⟩ := h; exact ⟨vs, h1, DV hw hsub cs vs L hL h2⟩
 | .tup cs, v, L, hL, h => by simp only [ownR] at h ⊢; obtain ⟨vs, h1, h2⟩ := h; exact ⟨vs, h1, DV hw hsub cs vs L hL h2⟩
 | .undef, v, L, _, h => by simpa [ownR] using h
 | .bool b, v, L, _, h => by simpa [ownR, rep] using h
 | .int k n, v, L, _, h => by simpa [ownR, rep] using h
 | .str s, v, L, _, h => by simpa [ownR, rep] using h
 | .nil, v, L, _, h => by simpa [ownR, rep] using h
 | .sl t xs sp ex, v, L, _, h => by simp only [ownR] at h ⊢; exact ⟨h.1, h.2.1, Bj (fun b hb => ⟨hsub b hb, by rw [hw]⟩) _ _ h.2.1 h.2.2⟩
 | .cptr t x j, v, L, _, h => by simp only [ownR] at h ⊢; exact ⟨h.1, h.2.1, Bj (fun b hb => ⟨hsub b hb, by rw [hw]⟩) _ _ h.2.1 h.2.2⟩
 | .fn f a b, v, L, _, h => by simp only [ownR] at h ⊢; exact ⟨h.1, h.2.1, Bj (fun b hb => ⟨hsub b hb, by rw [hw]⟩) _ _ h.2.1 h.2.2⟩
 | .ref .., v, L, _, h => by simp [ownR] at h
 | .ptr .., v, L, _, h => by simp [ownR] at h
theorem DV {P : Program} {E E' : Env} (hw : E'.w = E.w) (hsub : ∀ b, E.I b → E'.I b) : ∀ (xs : List AV) (vs : List Value) (L : List OLoc), (∀ o ∈ L, ¬ E'.I o.l.b) → ownRL P E xs vs L → ownRL P E' xs vs L
 | [], vs, L, _, h => by simpa [ownRL] using h
 | x :: xs, vs, L, hL, h => by
  simp only [ownRL] at h ⊢
  obtain ⟨v, us, L1, L2, h1, rfl, h3, h4⟩ := h
  exact ⟨v, us, L1, L2, h1, rfl, Ik hw hsub x v L1 (fun o ho => hL o (by simp [ho])) h3, DV hw hsub xs us L2 (fun o ho => hL o (by simp [ho])) h4⟩
end
def ioL (P : Program) (E : Env) (q : Nat × Nat × Nat) : OLoc := ⟨⟨(E.m q.1).b, (E.m q.1).base + q.2.1 * szT P (E.h q.1).t, (E.m q.1).cap - q.2.1⟩, (E.h q.1).t, q.2.2⟩
structure PassOk (P : Program) (E : Env) (io : List (Nat × Nat × Nat)) (eat : List Nat) (L : List OLoc) : Prop where
 ios : ∀ q ∈ io, (E.h q.1).lv = true ∧ q.2.1 + q.2.2 ≤ (E.h q.1).xs.length ∧ q.2.2 ≠ 0
 eats : ∀ a ∈ eat, (E.h a).lv = true
 onlyIo : eat = [] → L = io.map (ioL P E)
 blocks : L.length = io.length + eat.length ∧ (io = [] → L.map (·.l) = eat.map E.m)
 each : ∀ o ∈ L, (∃ q ∈ io, o = ioL P E q) ∨ (∃ a ∈ eat, o.l = E.m a ∧ o.t = (E.h a).t ∧ o.n ≤ (E.h a).xs.length)
theorem KW {P : Program} {E : Env} {st : St} (hE : Ok P E) (hh : st.h = E.h) (S : List Nat) (hS : ∀ i ∈ S, (E.h i).lv = true) : ∀ (pm : List PM) (as0 sargs : List AV) (sids : List Nat) (io : List (Nat × Nat × Nat)) (eat : List Nat) (vs : List Value),
  passL st pm as0 = some (sargs, sids, io, eat) → repL P E as0 vs → (∀ i ∈ sids, i ∈ S) → (∀ i ∈ S, i ∉ io.map (·.1) ++ eat) → ∃ L, ownRL P (E.shut S) sargs vs L ∧ PassOk P E io eat L := by
 have notin : ∀ id, (E.h id).lv = true → id ∉ S → ¬ (E.shut S).I (E.m id).b := by
  intro id hlv hn h
  rcases h with h | ⟨i, hi, h1, h2⟩
  ·exact (hE.blk id hlv).dark h
  ·exact hn (hE.inj i id h1 hlv h2 ▸ hi)
 intro pm
 induction pm with
 | nil =>
  intro as0 sargs sids io eat vs h hr _ _
  cases as0 with
  | cons _ _ => simp [passL] at h
  | nil =>
   simp only [passL, Option.some.injEq, Prod.mk.injEq] at h
   obtain ⟨rfl, rfl, rfl, rfl⟩ := h
   simp only [repL] at hr; subst hr
   exact ⟨[], by simp [ownRL], zS, zS, fun _ => rfl, ⟨rfl, fun _ => rfl⟩, zS⟩
 | cons m pm ih =>
  intro as0 sargs sids io eat vs h hr hs hd
  cases as0 with
  | nil => simp [passL] at h
  | cons a as0 =>
   simp only [passL] at h
   obtain ⟨⟨y, i1, o1, e1⟩, h1, h⟩ := Option.bind_eq_some_iff.1 h
   obtain ⟨⟨ys, i2, o2, e2⟩, h2, h⟩ := Option.bind_eq_some_iff.1 h
   simp only [Option.some.injEq, Prod.mk.injEq] at h
   obtain ⟨rfl, rfl, rfl, rfl⟩ := h
   simp only [repL] at hr
   obtain ⟨v, us, rfl, hv, hus⟩ := hr
   obtain ⟨L2, r2, q2⟩ := ih as0 ys i2 o2 e2 us h2 hus (fun i hi => hs i (by simp [hi])) (fun i hi hm => hd i hi (by simp only [List.mem_append, List.map_append] at hm ⊢; rcases hm with h | h <;> simp [h]))
   have fin : ∀ L1, ownR P (E.shut S) y v L1 → PassOk P E o1 e1 L1 → (o1 = [] ∧ e1 = [] ∧ L1 = [] ∨ (o1 = [] ∨ e1 = [])) → ∃ L, ownRL P (E.shut S) (y :: ys) (v :: us) L ∧ PassOk P E (o1 ++ o2) (e1 ++ e2) L := by
    intro L1 r1 q1 _
    refine ⟨L1 ++ L2, by simp only [ownRL]; exact ⟨v, us, L1, L2, rfl, rfl, r1, r2⟩, fun q hq => (List.mem_append.1 hq).elim (q1.ios q) (q2.ios q), fun a ha => (List.mem_append.1 ha).elim (q1.eats a) (q2.eats a), fun he => ?_, ⟨?_, fun he => ?_⟩, fun o ho => ?_⟩
    ·have := List.append_eq_nil_iff.1 he
     rw [q1.onlyIo this.1, q2.onlyIo this.2, List.map_append]
    ·simp only [List.length_append]; have := q1.blocks.1; have := q2.blocks.1; omega
    ·have := List.append_eq_nil_iff.1 he
     rw [List.map_append, List.map_append, q1.blocks.2 this.1, q2.blocks.2 this.2]
    ·rcases List.mem_append.1 ho with ho | ho
     ·rcases q1.each o ho with ⟨q, hq, h⟩ | ⟨a, ha, h⟩
      ·exact .inl ⟨q, by simp [hq], h⟩
      ·exact .inr ⟨a, by simp [ha], h⟩
     ·rcases q2.each o ho with ⟨q, hq, h⟩ | ⟨a, ha, h⟩
      ·exact .inl ⟨q, by simp [hq], h⟩
      ·exact .inr ⟨a, by simp [ha], h⟩
   cases m with
   | snap =>
    simp only [passA, Option.map_eq_some_iff, Prod.mk.injEq] at h1
    obtain ⟨⟨y', i'⟩, hsn, rfl, rfl, rfl, rfl⟩ := h1
    obtain ⟨p1, p2, p3⟩ := C1 hE hh 8 a y' i' v hsn hv
    exact fin [] (Bw _ _ p1 (Et (fun x hx => hs x (by simp [hx])) p1 p2)) ⟨zS, zS, fun _ => rfl, ⟨rfl, fun _ => rfl⟩, zS⟩ (.inr (.inl rfl))
   | io =>
    cases a <;> simp only [passA] at h1 <;> try (simp at h1; done)
    rename_i id n off len
    split at h1
    ·rename_i hc
     rw [hh] at hc h1
     simp only [Option.some.injEq, Prod.mk.injEq] at h1
     obtain ⟨rfl, rfl, rfl, rfl⟩ := h1
     obtain ⟨hlv, hn, hle, hl0, hpure⟩ := hc
     have B := hE.blk id hlv
     obtain ⟨c, ws, hb, hrl, hca, hcs⟩ := B.at_
     simp only [rep] at hv
     obtain ⟨hid, hnl, ad, k, rfl, hv⟩ := hv
     obtain ⟨g1, g2, g3⟩ := hv hlv hn
     have hBle := B.le
     have hwl : (((E.h id).xs.drop off).take len).length = len := by rw [List.length_take, List.length_drop]; omega
     have hns : id ∉ S := fun hi => hd id hi zS
     refine fin [⟨⟨(E.m id).b, (E.m id).base + off * szT P (E.h id).t, (E.m id).cap - off⟩, (E.h id).t, (((E.h id).xs.drop off).take len).length + ([] : List AV).length⟩] ?_ ⟨?_, zS, fun _ => ?_, ⟨rfl, fun h => by simp at h⟩, fun o ho => ?_⟩ (.inr (.inr rfl))
     ·simp only [ownR]
      refine ⟨_, [], [], (ws.drop off).take len, [], c, ad, rfl, by rw [hwl, g2], fun hk => g3 (by rw [g2]; exact hk), notin id hlv hns, by rw [hwl]; simp; omega, zS, fun x hx => ?_, ?_, by simp [ownRL], hb, ?_, ?_⟩
      ·exact B.cl x (List.mem_of_mem_drop (List.mem_of_mem_take (by simpa using hx)))
      ·refine Cu _ _ hpure (BP (E := E) (E' := E.shut S) (fun b hb => ⟨Or.inl hb, rfl⟩) _ _ hpure (BV (BO hrl off) len))
      ·rw [List.append_nil]; exact (hca.drop off).take len
      ·have : (E.m id).base + off * szT P (E.h id).t + ((E.m id).cap - off) * szT P (E.h id).t = (E.m id).base + (E.m id).cap * szT P (E.h id).t := by
        rw [Nat.add_assoc, ← Nat.add_mul]; congr 2; omega
       show (E.m id).base + off * szT P (E.h id).t + ((E.m id).cap - off) * szT P (E.h id).t ≤ c.size
       omega
     ·intro q hq
      simp only [List.mem_singleton] at hq; subst hq
      exact ⟨hlv, zT, hl0⟩
     ·simp [ioL, hwl]
     ·simp only [List.mem_singleton] at ho; subst ho
      exact .inl ⟨(id, off, len), zS, by simp [ioL, hwl]⟩
    ·cases h1
   | eat =>
    simp only [passA, Option.map_eq_some_iff, Prod.mk.injEq] at h1
    obtain ⟨⟨y', i'⟩, hown, rfl, rfl, rfl, rfl⟩ := h1
    obtain ⟨L1, p1, p2, p3, p4⟩ := FQ hE hh 8 a y' i' v hown hv
    refine fin L1 (Ik (E := E) (E' := E.shut S) rfl (fun b hb => Or.inl hb) _ _ _ (fun o ho => ?_) p1) ⟨zS, fun a ha => (p2 a ha).1, fun he => ?_, ⟨?_, fun _ => p3⟩, fun o ho => ?_⟩ (.inr (.inl rfl))
    ·obtain ⟨a, ha, h1, _⟩ := p4 o ho
     rw [h1]
     exact notin a (p2 a ha).1 (fun hi => hd a hi (by simp [ha]))
    ·subst he
     have := congrArg List.length p3
     simp only [List.length_map, List.map_nil, List.length_nil] at this
     simpa using List.length_eq_zero_iff.1 this
    ·have := congrArg List.length p3
     simp only [List.length_map] at this
     simp [this]
    ·obtain ⟨a, ha, h1, h2, h3⟩ := p4 o ho
     exact .inr ⟨a, ha, h1, h2, h3⟩
end Go.Proofs.YthiddlfddncbmaaGreatDoor
