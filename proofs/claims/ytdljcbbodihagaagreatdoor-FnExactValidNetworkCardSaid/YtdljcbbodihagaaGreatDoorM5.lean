/- Ground 5. -/
import Derived.Test.YtdljcbbodihagaaGreatDoorProg
import Derived.KernelRfl
import Derived.Test.YtdljcbbodihagaaGreatDoorM4

set_option linter.unusedVariables false
set_option linter.unusedSimpArgs false
set_option maxRecDepth 100000
namespace Go.Proofs.YtdljcbbodihagaaGreatDoor
open Go

def evA (fr : Nat → AV) : Operand → AV
 | .tmp t => fr t
 | .const v => ofVal v
 | .func f => .fn (.func f) [] []
 | .global _ => .undef
theorem evA_tmp (fr : Nat → AV) (t : Nat) : evA fr (.tmp t) = fr t := (rfl : _ = _).trans rfl
theorem evA_func (fr : Nat → AV) (t : Nat) : evA fr (.func t) = .fn (.func t) [] [] := (rfl : _ = _).trans rfl
theorem evA_int (fr : Nat → AV) (k : IntKind) (n : Int) : evA fr (.const (.int k n)) = .int k n := (rfl : _ = _).trans rfl
theorem evA_bool (fr : Nat → AV) (b : Bool) : evA fr (.const (.bool b)) = .bool b := (rfl : _ = _).trans rfl
theorem evA_str (fr : Nat → AV) (l : List UInt8) : evA fr (.const (.string ⟨l.toArray⟩)) = .str l := by simp [evA, ofVal, ofCell]
theorem evA_nil (fr : Nat → AV) : evA fr (.const (.slice none 0 0)) = .nil := (rfl : _ = _).trans rfl
theorem ev_mk (fr : Nat → AV) (h : Nat → Blk) (nx : Nat) (x : Operand) : St.ev ⟨fr, h, nx⟩ x = evA fr x := rfl
section
variable {P : Program} {W : FuncId → Bool} {ops : Array Oper} {os : List Oper} {fr : Nat → AV} {h : Nat → Blk} {nx : Nat} {K : St → Prop} {d t : Nat} {p : String} {af : Array Edge}
theorem x_nil : wpos P W ops [] ⟨fr, h, nx⟩ K = K ⟨fr, h, nx⟩ := (rfl : _ = _).trans rfl
theorem x_plain {st : St} {d : Option Tmp} {o : Op} (hn : ∀ f as0 ts, o ≠ .call { callee := .value f, args := as0, argTypes := ts }) :
    wpos P W ops (⟨d, o, t, p, af, none⟩ :: os) st K = match evalOp P st o with | some q => wpos P W ops os (q.2.put d q.1) K | none => False := by
  have : opK P W st d o (fun st' => wpos P W ops os st' K) = match evalOp P st o with | some q => wpos P W ops os (q.2.put d q.1) K | none => False := by
    unfold opK
    split
    · rename_i f as0 ts; exact absurd rfl (hn f as0 ts)
    · rfl
  simp [wpos, wpo, guardA, this]
theorem x_guard {st : St} {d : Option Tmp} {o : Op} {j : Nat} {b : Bool} :
    wpos P W ops (⟨d, o, t, p, af, some (j, b)⟩ :: os) st K = match (ops[j]?).bind (·.dst) with
      | some e => match st.fr e with
        | .bool c => (match c == b with | true => wpos P W ops (⟨d, o, t, p, af, none⟩ :: os) st K | false => wpos P W ops os (st.put d (.tup [])) K)
        | .tup _ => wpos P W ops os (st.put d (.tup [])) K
        | _ => False
      | none => False := by
  simp only [wpos, wpo, guardA]
  cases (ops[j]?).bind (·.dst) with
  | none => rfl
  | some e =>
    simp only
    cases st.fr e <;> first | rfl | (rename_i c; cases c <;> cases b <;> simp; done) | simp
theorem x_move {x : Operand} : wpos P W ops (⟨some d, .move x, t, p, af, none⟩ :: os) ⟨fr, h, nx⟩ K = wpos P W ops os ⟨upd fr d (evA fr x), h, nx⟩ K := by rw [x_plain (by intros; simp)]; rfl
theorem x_assign {x : Operand} : wpos P W ops (⟨some d, .assign x, t, p, af, none⟩ :: os) ⟨fr, h, nx⟩ K = wpos P W ops os ⟨upd fr d (evA fr x), h, nx⟩ K := by rw [x_plain (by intros; simp)]; rfl
theorem x_pick {c x y : Operand} : wpos P W ops (⟨some d, .pick c x y, t, p, af, none⟩ :: os) ⟨fr, h, nx⟩ K = match evA fr c with
  | .bool b => wpos P W ops os ⟨upd fr d (if b = true then evA fr x else evA fr y), h, nx⟩ K
  | _ => False := by
 rw [x_plain (by intros; simp)]; simp only [evalOp, ev_mk]; cases evA fr c <;> rfl
def goV (o : Option AV) (f : AV → Prop) : Prop := match o with | some v => f v | none => False
theorem x_bin {op : BinOp} {t1 t2 : TypeId} {x y : Operand} : wpos P W ops (⟨some d, .binOp op t1 x y t2, t, p, af, none⟩ :: os) ⟨fr, h, nx⟩ K =
    match (if isBool (evA fr x) = true → boolT P t1 = true then binN P op t1 y (evA fr x) (evA fr y) else none) with
    | some v => wpos P W ops os ⟨upd fr d v, h, nx⟩ K
    | none => False := by
  rw [x_plain (by intros; simp)]; simp only [evalOp]
  by_cases hc : (isBool (evA fr x) = true → boolT P t1 = true)
  · have hc' : (isBool (St.ev ⟨fr, h, nx⟩ x) = true → boolT P t1 = true) := hc
    rw [if_pos hc, if_pos hc']; simp only [ev_mk]; cases binN P op t1 y (evA fr x) (evA fr y) <;> rfl
  · have hc' : ¬ (isBool (St.ev ⟨fr, h, nx⟩ x) = true → boolT P t1 = true) := hc
    rw [if_neg hc, if_neg hc']
theorem x_un {op : UnOp} {t1 : TypeId} {x : Operand} : wpos P W ops (⟨some d, .unOp op t1 x, t, p, af, none⟩ :: os) ⟨fr, h, nx⟩ K =
  match unA op (evA fr x) with | some v => wpos P W ops os ⟨upd fr d v, h, nx⟩ K | none => False := by
 rw [x_plain (by intros; simp)]; simp only [evalOp, ev_mk]; cases unA op (evA fr x) <;> rfl
theorem x_conv {t1 t2 : TypeId} {x : Operand} : wpos P W ops (⟨some d, .convert t1 t2 x, t, p, af, none⟩ :: os) ⟨fr, h, nx⟩ K =
    match (if okT P t1 = true then conA P ⟨fr, h, nx⟩ t1 t2 (evA fr x) else none) with | some v => wpos P W ops os ⟨upd fr d v, h, nx⟩ K | none => False := by
  rw [x_plain (by intros; simp)]; simp only [evalOp, ev_mk]
  by_cases hc : okT P t1 = true
  · simp only [if_pos hc]; cases conA P ⟨fr, h, nx⟩ t1 t2 (evA fr x) <;> rfl
  · simp only [if_neg hc]
theorem conA_int {st : St} {t1 t2 : TypeId} {k : IntKind} {n : Int} : conA P st t1 t2 (.int k n) = if t1 = 147 then none else convA P t2 (.int k n) := by
  unfold conA
  by_cases hc : t1 = 147
  · rw [if_pos hc, if_pos hc]
    split
    · cases elT P t1 with
      | none => rfl
      | some e => simp [winA]
    · rfl
  · rw [if_neg hc, if_neg hc]
theorem x_slice {t1 : TypeId} {x : Operand} {lo hi mx : Option Operand} : wpos P W ops (⟨some d, .slice t1 x lo hi mx, t, p, af, none⟩ :: os) ⟨fr, h, nx⟩ K =
  match sliceA P ⟨fr, h, nx⟩ t1 (evA fr x) (lo.map (evA fr)) (hi.map (evA fr)) (mx.map (evA fr)) with | some v => wpos P W ops os ⟨upd fr d v, h, nx⟩ K | none => False := by
 rw [x_plain (by intros; simp)]; simp only [evalOp, ev_mk]
 have : St.ev ⟨fr, h, nx⟩ = evA fr := by funext x; rfl
 rw [this]
 cases sliceA P ⟨fr, h, nx⟩ t1 (evA fr x) (lo.map (evA fr)) (hi.map (evA fr)) (mx.map (evA fr)) <;> rfl
theorem x_idx {t1 : TypeId} {x i : Operand} : wpos P W ops (⟨some d, .index t1 x i, t, p, af, none⟩ :: os) ⟨fr, h, nx⟩ K =
    match evA fr x, evA fr i with
    | .str s, .int _ i => match (if strT P t1 = true ∧ 0 ≤ i ∧ i < (s.length : Int) then s[i.toNat]? else none) with | some b => wpos P W ops os ⟨upd fr d (.int .u8 b.toNat), h, nx⟩ K | none => False
    | _, _ => False := by
  rw [x_plain (by intros; simp)]; simp only [evalOp, ev_mk]
  cases evA fr x <;> try rfl
  cases evA fr i <;> try rfl
  rename_i s k n
  by_cases hc : strT P t1 = true ∧ 0 ≤ n ∧ n < (s.length : Int)
  · simp only [if_pos hc]; cases s[n.toNat]? <;> rfl
  · simp only [if_neg hc]
theorem x_idxAddr {t1 : TypeId} {x i : Operand} : wpos P W ops (⟨some d, .indexAddr t1 x i, t, p, af, none⟩ :: os) ⟨fr, h, nx⟩ K =
  match indexAddrA P ⟨fr, h, nx⟩ t1 (evA fr x) (evA fr i) with | some v => wpos P W ops os ⟨upd fr d v, h, nx⟩ K | none => False := by
 rw [x_plain (by intros; simp)]; simp only [evalOp, ev_mk]; cases indexAddrA P ⟨fr, h, nx⟩ t1 (evA fr x) (evA fr i) <;> rfl
theorem x_fieldAddr {t1 : TypeId} {x : Operand} {f : Nat} : wpos P W ops (⟨some d, .fieldAddr t1 x f, t, p, af, none⟩ :: os) ⟨fr, h, nx⟩ K =
    match fieldOff P t1 f with
    | some q => (match evA fr x with
      | .ptr id n i j => (if szT P q.2 ≠ 0 then wpos P W ops os ⟨upd fr d (.ptr id n i (j + q.1)), h, nx⟩ K else False)
      | .cptr t v j => (if szT P q.2 ≠ 0 then wpos P W ops os ⟨upd fr d (.cptr t v (j + q.1)), h, nx⟩ K else False)
      | _ => False)
    | none => False := by
  rw [x_plain (by intros; simp)]; simp only [evalOp, ev_mk]
  cases fieldOff P t1 f with
  | none => rfl
  | some q =>
    obtain ⟨a, b⟩ := q
    cases evA fr x <;> try rfl
    all_goals
      by_cases hc : szT P b ≠ 0
      · simp only [if_pos hc]; rfl
      · simp only [if_neg hc]
theorem x_field {t1 : TypeId} {x : Operand} {f : Nat} : wpos P W ops (⟨some d, .field t1 x f, t, p, af, none⟩ :: os) ⟨fr, h, nx⟩ K =
    match fieldOff P t1 f with
    | some q => (match evA fr x with
      | .agg cs => (match (if okT P q.2 = true then partA P q.2 cs q.1 else none) with | some v => wpos P W ops os ⟨upd fr d v, h, nx⟩ K | none => False)
      | _ => False)
    | none => False := by
  rw [x_plain (by intros; simp)]; simp only [evalOp, ev_mk]
  cases fieldOff P t1 f with
  | none => rfl
  | some q =>
    obtain ⟨a, b⟩ := q
    cases evA fr x <;> try rfl
    rename_i cs
    by_cases hc : okT P b = true
    · simp only [if_pos hc]; cases partA P b cs a <;> rfl
    · simp only [if_neg hc]
theorem x_extract {x : Operand} {i : Nat} : wpos P W ops (⟨some d, .extract x i, t, p, af, none⟩ :: os) ⟨fr, h, nx⟩ K =
  match evA fr x with
  | .tup vs => (match vs[i]? with | some v => wpos P W ops os ⟨upd fr d v, h, nx⟩ K | none => False)
  | _ => False := by
 rw [x_plain (by intros; simp)]; simp only [evalOp, ev_mk]
 cases evA fr x <;> try rfl
 rename_i vs
 simp only; cases vs[i]? <;> rfl
theorem x_load {t1 : TypeId} {x : Operand} : wpos P W ops (⟨some d, .load t1 x, t, p, af, none⟩ :: os) ⟨fr, h, nx⟩ K =
    match (if okT P t1 = true then loadA P ⟨fr, h, nx⟩ t1 (evA fr x) else none) with | some v => wpos P W ops os ⟨upd fr d v, h, nx⟩ K | none => False := by
  rw [x_plain (by intros; simp)]; simp only [evalOp, ev_mk]
  by_cases hc : okT P t1 = true
  · simp only [if_pos hc]; cases loadA P ⟨fr, h, nx⟩ t1 (evA fr x) <;> rfl
  · simp only [if_neg hc]
theorem x_store {t1 : TypeId} {x y : Operand} : wpos P W ops (⟨none, .store t1 x y, t, p, af, none⟩ :: os) ⟨fr, h, nx⟩ K =
    match (if okT P t1 = true then storeA P ⟨fr, h, nx⟩ t1 (evA fr x) (evA fr y) else none) with | some st => wpos P W ops os st K | none => False := by
  rw [x_plain (by intros; simp)]; simp only [evalOp, ev_mk]
  by_cases hc : okT P t1 = true
  · simp only [if_pos hc]; cases storeA P ⟨fr, h, nx⟩ t1 (evA fr x) (evA fr y) <;> rfl
  · simp only [if_neg hc]
theorem x_len {x : Operand} {t1 : TypeId} : wpos P W ops (⟨some d, .call { callee := .builtin .len, args := #[x], argTypes := #[t1] }, t, p, af, none⟩ :: os) ⟨fr, h, nx⟩ K =
    match (if lenT P t1 (evA fr x) = true then lenA ⟨fr, h, nx⟩ (evA fr x) else none) with | some n => wpos P W ops os ⟨upd fr d (.int .i64 n), h, nx⟩ K | none => False := by
  rw [x_plain (by intros; simp)]; simp only [evalOp]
  by_cases hc : lenT P t1 (evA fr x) = true
  · have hc' : lenT P t1 (St.ev ⟨fr, h, nx⟩ x) = true := hc
    rw [if_pos hc, if_pos hc']; simp only [ev_mk]; cases lenA ⟨fr, h, nx⟩ (evA fr x) <;> rfl
  · have hc' : ¬ lenT P t1 (St.ev ⟨fr, h, nx⟩ x) = true := hc
    rw [if_neg hc, if_neg hc']
theorem x_append {x y : Operand} {t1 t2 : TypeId} : wpos P W ops (⟨some d, .call { callee := .builtin .append, args := #[x, y], argTypes := #[t1, t2] }, t, p, af, none⟩ :: os) ⟨fr, h, nx⟩ K =
  match elT P t1 with
  | some e => (match (if elT P t2 = some e ∧ zokT P e = true then winA ⟨fr, h, nx⟩ e (evA fr y) else none) with
   | some ys => (match appendA P ⟨fr, h, nx⟩ e (evA fr x) ys with
    | some q => wpos P W ops os (q.2.put (some d) q.1) K
    | none => False)
   | none => (match appendN P ⟨fr, h, nx⟩ t2 e (evA fr x) (evA fr y) with
    | some q => wpos P W ops os (q.2.put (some d) q.1) K
    | none => False))
  | none => False := by
 rw [x_plain (by intros; simp)]; simp only [evalOp, ev_mk]
 cases elT P t1 with
 | none => rfl
 | some e =>
  simp only [Option.bind_some]
  cases (if elT P t2 = some e ∧ zokT P e = true then winA ⟨fr, h, nx⟩ e (evA fr y) else none) with
  | none => rfl
  | some ys => rfl
theorem x_cap {x : Operand} {t1 : TypeId} : wpos P W ops (⟨some d, .call { callee := .builtin .cap, args := #[x], argTypes := #[t1] }, t, p, af, none⟩ :: os) ⟨fr, h, nx⟩ K =
  match evA fr x, elT P t1 with
  | .nil, some _ => wpos P W ops os ⟨upd fr d (.int .i64 0), h, nx⟩ K
  | _, _ => False := by
 rw [x_plain (by intros; simp)]; simp only [evalOp, ev_mk]
 cases evA fr x <;> cases elT P t1 <;> rfl
theorem x_copy {x y : Operand} {t1 t2 : TypeId} : wpos P W ops (⟨some d, .call { callee := .builtin .copy, args := #[x, y], argTypes := #[t1, t2] }, t, p, af, none⟩ :: os) ⟨fr, h, nx⟩ K =
    match elT P t1 with
    | some e => (match (if elT P t2 = some e ∧ zokT P e = true then winA ⟨fr, h, nx⟩ e (cutA (evA fr x) (evA fr y)) else none) with
      | some ys => (match copyA P ⟨fr, h, nx⟩ e (evA fr x) ys with
        | some q => wpos P W ops os (q.2.put (some d) q.1) K
        | none => False)
      | none => False)
    | none => False := by
  rw [x_plain (by intros; simp)]; simp only [evalOp, ev_mk]
  cases elT P t1 with
  | none => rfl
  | some e =>
    simp only [Option.bind_some]
    by_cases hc : elT P t2 = some e ∧ zokT P e = true
    · simp only [if_pos hc]; cases winA ⟨fr, h, nx⟩ e (cutA (evA fr x) (evA fr y)) <;> rfl
    · simp only [if_neg hc]
theorem x_max {x y : Operand} {ts : Array TypeId} : wpos P W ops (⟨some d, .call { callee := .builtin .max, args := #[x, y], argTypes := ts }, t, p, af, none⟩ :: os) ⟨fr, h, nx⟩ K =
    match evA fr x, evA fr y with
    | .int k a, .int k' b => if k = k' then wpos P W ops os ⟨upd fr d (.int k (if b > a then b else a)), h, nx⟩ K else False
    | _, _ => False := by
  rw [x_plain (by intros; simp)]
  have e : evalOp P ⟨fr, h, nx⟩ (.call { callee := .builtin .max, args := #[x, y], argTypes := ts }) = match evA fr x, evA fr y with
      | .int k a, .int k' b => if k = k' then some (.int k (if b > a then b else a), ⟨fr, h, nx⟩) else none
      | _, _ => none := by
    simp only [evalOp, ev_mk]
    split <;> first | rfl | skip
    all_goals simp_all
  rw [e]
  cases evA fr x <;> try rfl
  cases evA fr y <;> try rfl
  rename_i k a k' b
  simp only
  by_cases hc : k = k'
  · simp only [if_pos hc]; rfl
  · simp only [if_neg hc]
theorem x_makeSlice {t1 : TypeId} {l c : Operand} : wpos P W ops (⟨some d, .makeSlice t1 l c, t, p, af, none⟩ :: os) ⟨fr, h, nx⟩ K =
    match elT P t1 with
    | some e => (match evA fr l, evA fr c with
      | .int _ l, .int _ c =>
        if 0 ≤ l ∧ l ≤ c ∧ c * (byT P e : Int) ≤ reach ∧ c ≤ reach then
          (match zeroA P e with
          | some z => if z.el P e = true then wpos P W ops os ⟨upd fr d (.ref nx c.toNat 0 l.toNat), upd h nx ⟨e, List.replicate c.toNat z, true, true, true⟩, nx + 1⟩ K else False
          | none => False)
        else False
      | _, _ => False)
    | none => False := by
  rw [x_plain (by intros; simp)]; simp only [evalOp, ev_mk]
  cases elT P t1 with
  | none => rfl
  | some e =>
    simp only [Option.bind_some]
    cases evA fr l <;> try rfl
    cases evA fr c <;> try rfl
    rename_i k l k' c
    simp only
    by_cases hc : 0 ≤ l ∧ l ≤ c ∧ c * (byT P e : Int) ≤ reach ∧ c ≤ reach
    · simp only [if_pos hc]
      cases zeroA P e with
      | none => rfl
      | some z =>
        simp only [Option.bind_some]
        by_cases hz : z.el P e = true
        · simp only [if_pos hz]; rfl
        · simp only [if_neg hz]
    · simp only [if_neg hc]
theorem x_list0 {t1 : TypeId} : wpos P W ops (⟨some d, .buildSlice t1 0 #[], t, p, af, none⟩ :: os) ⟨fr, h, nx⟩ K =
    match elT P t1 with
    | some e => if zokT P e = true then (if u32T P e = true then wpos P W ops os ⟨upd fr d (.sl e [] [] true), h, nx⟩ K else wpos P W ops os ⟨upd fr d (.ref nx 0 0 0), upd h nx ⟨e, [], true, true, true⟩, nx + 1⟩ K) else False
    | none => False := by
  rw [x_plain (by intros; simp)]; simp only [evalOp, ev_mk]
  cases elT P t1 with
  | none => rfl
  | some e =>
    by_cases hz : zokT P e = true
    · cases hu : u32T P e
      · simp [hz, hu, St.new, St.put]
      · simp [hz, hu, St.put, partsA]
    · simp [hz]
theorem x_list {t1 : TypeId} {n : Nat} {parts : Array (Nat × Operand)} (hn : n ≠ 0) : wpos P W ops (⟨some d, .buildSlice t1 n parts, t, p, af, none⟩ :: os) ⟨fr, h, nx⟩ K =
    match elT P t1 with
    | some e => (match (if n * szT P e ≤ 16777216 ∧ zokT P e = true then partsA 0 (parts.toList.map fun p => (p.1, evA fr p.2)) else none) with
      | some xs => (if xs.length = n ∧ xs.all (AV.el P e) = true then wpos P W ops os ⟨upd fr d (.sl e xs [] true), h, nx⟩ K else False)
      | none => False)
    | none => False := by
  rw [x_plain (by intros; simp)]; simp only [evalOp, ev_mk]
  cases elT P t1 with
  | none => rfl
  | some e =>
    have hn' : ¬ (n = 0 ∧ u32T P e = false) := fun h => hn h.1
    simp only [Option.bind_some, if_neg hn']
    by_cases hc : n * szT P e ≤ 16777216 ∧ zokT P e = true
    · simp only [if_pos hc]
      cases partsA 0 (parts.toList.map fun p => (p.1, evA fr p.2)) with
      | none => rfl
      | some xs =>
        simp only [Option.bind_some]
        by_cases hx : xs.length = n ∧ xs.all (AV.el P e) = true
        · simp only [if_pos hx]; rfl
        · simp only [if_neg hx]
    · simp only [if_neg hc]
theorem x_build {t1 : TypeId} {parts : Array (Nat × Operand)} : wpos P W ops (⟨some d, .build t1 parts, t, p, af, none⟩ :: os) ⟨fr, h, nx⟩ K =
    match (if infosT P t1 = true then zeroA P t1 else none) with
    | some (.agg cs) => (match fillA P t1 cs (parts.toList.map fun p => (p.1, evA fr p.2)) with | some cs => wpos P W ops os ⟨upd fr d (.agg cs), h, nx⟩ K | none => False)
    | _ => False := by
  rw [x_plain (by intros; simp)]; simp only [evalOp, ev_mk]
  by_cases hc : infosT P t1 = true
  · simp only [if_pos hc]
    cases zeroA P t1 with
    | none => rfl
    | some z =>
      cases z <;> try rfl
      rename_i cs
      simp only
      cases fillA P t1 cs (parts.toList.map fun p => (p.1, evA fr p.2)) <;> rfl
  · simp only [if_neg hc]
theorem x_alloc {e : TypeId} : wpos P W ops (⟨some d, .alloc e, t, p, af, none⟩ :: os) ⟨fr, h, nx⟩ K =
    match zeroA P e with
    | some z => if z.el P e = true then wpos P W ops os ⟨upd fr d (.ptr nx 1 0 0), upd h nx ⟨e, [z], true, false, true⟩, nx + 1⟩ K else False
    | none => False := by
  rw [x_plain (by intros; simp)]; simp only [evalOp, ev_mk]
  cases zeroA P e with
  | none => rfl
  | some z =>
    simp only [Option.bind_some]
    by_cases hz : z.el P e = true
    · simp only [if_pos hz]; rfl
    · simp only [if_neg hz]
theorem x_box {e : TypeId} {x : Operand} : wpos P W ops (⟨some d, .box e x, t, p, af, none⟩ :: os) ⟨fr, h, nx⟩ K =
    if (evA fr x).el P e = true then wpos P W ops os ⟨upd fr d (.ptr nx 1 0 0), upd h nx ⟨e, [evA fr x], true, false, true⟩, nx + 1⟩ K else False := by
  rw [x_plain (by intros; simp)]; simp only [evalOp]
  by_cases hz : (evA fr x).el P e = true
  · have hz' : (St.ev ⟨fr, h, nx⟩ x).el P e = true := hz
    rw [if_pos hz, if_pos hz']; rfl
  · have hz' : ¬ (St.ev ⟨fr, h, nx⟩ x).el P e = true := hz
    rw [if_neg hz, if_neg hz']
theorem snapA_pure' {st : St} {n : Nat} {v : AV} (h : v.pure = true) : snapA st n v = some (v, []) := by cases n <;> simp [snapA, h]
theorem snapL_pure' {st : St} {n : Nat} : ∀ {xs : List AV}, AV.pureL xs = true → snapL (snapA st n) xs = some (xs, [])
 | [], _ => rfl
 | x :: xs, h => by
  simp only [AV.pureL, Bool.and_eq_true] at h
  simp [snapL, snapA_pure' h.1, snapL_pure' h.2]
theorem passL_pure' {st : St} : ∀ {xs : List AV}, AV.pureL xs = true → passL st (xs.map fun _ => .snap) xs = some (xs, [], [], [])
 | [], _ => rfl
 | x :: xs, h => by
  simp only [AV.pureL, Bool.and_eq_true] at h
  simp [passL, passA, snapA_pure' h.1, passL_pure' h.2]
theorem CallOk.inOk' {g : FuncId} {sargs : List AV} {r : AV} {fr : Nat → AV} {h : Nat → Blk} {nx : Nat} (hc : CallOk P g sargs r []) (hp : AV.pureL sargs = true) (hr : r.pure = true) : InOk P ⟨fr, h, nx⟩ g sargs r ⟨fr, h, nx⟩ := by
 have he : eatH (outH h [] []) [] = h := by funext i; simp [eatH, outH]
 have : CallStep P ⟨fr, h, nx⟩ g sargs r ⟨fr, h, nx⟩ := ⟨sargs.map fun _ => .snap, sargs, [], [], [], r, [], passL_pure' hp, hc, by simp, by simp, .inl rfl, .inl rfl, by
  rw [matA_pure _ _ _ hr, he]⟩
 exact this.inOk
theorem x_callIn {d : Option Tmp} {f : Operand} {args : Array Operand} {ts : Array TypeId} {g : FuncId} {first cap as0 : List AV} {x : AV} {h' : Nat → Blk} {nx' : Nat}
  (hc : InOk P ⟨fr, h, nx⟩ g as0 x ⟨fr, h', nx'⟩) (hf : evA fr f = .fn (.func g) first cap) (hg : callable P g = true) (ha : first ++ args.toList.map (evA fr) ++ cap = as0)
  (hw : isW W (.call { callee := .value f, args := args, argTypes := ts }) = false → h' = h ∧ nx' = nx)
  (hpu : isW W (.call { callee := .value f, args := args, argTypes := ts }) = false → AV.pureL as0 = true → ∀ h nx, InOk P ⟨fr, h, nx⟩ g as0 x ⟨fr, h, nx⟩) (hk : wpos P W ops os (St.put ⟨fr, h', nx'⟩ d x) K) :
  wpos P W ops (⟨d, .call { callee := .value f, args := args, argTypes := ts }, t, p, af, none⟩ :: os) ⟨fr, h, nx⟩ K := by
 subst ha
 simp only [wpos, wpo, guardA]
 exact ⟨fun _ => ⟨_, _, ⟨g, first, cap, hf, hg, hc, hw, hpu⟩, hk⟩, by simp⟩
theorem x_call {d : Option Tmp} {f : Operand} {args : Array Operand} {ts : Array TypeId} {g : FuncId} {first cap : List AV} (pm : List PM) {sargs : List AV} {sids : List Nat} {io : List (Nat × Nat × Nat)} {eat : List Nat} {r : AV} {outs : List (List AV)}
    (hc : CallOk P g sargs r outs) (hf : evA fr f = .fn (.func g) first cap) (hg : callable P g = true) (hp : passL ⟨fr, h, nx⟩ pm (first ++ args.toList.map (evA fr) ++ cap) = some (sargs, sids, io, eat))
    (hw : isW W (.call { callee := .value f, args := args, argTypes := ts }) = false → (matA true r ⟨fr, eatH (outH h io outs) eat, nx⟩).2.h = h ∧ (matA true r ⟨fr, eatH (outH h io outs) eat, nx⟩).2.nx = nx)
    (h1 : (io.map (·.1) ++ eat).Nodup) (h2 : ∀ i ∈ sids, i ∉ io.map (·.1) ++ eat) (h3 : sids = [] ∨ r.solid = true ∧ AV.solidL outs.flatten = true) (h4 : io = [] ∨ eat = [] ∧ outs.length = io.length)
    (hpu : isW W (.call { callee := .value f, args := args, argTypes := ts }) = false → AV.pureL (first ++ args.toList.map (evA fr) ++ cap) = true → ∀ h0 nx0, InOk P ⟨fr, h0, nx0⟩ g (first ++ args.toList.map (evA fr) ++ cap) (matA true r ⟨fr, eatH (outH h io outs) eat, nx⟩).1 ⟨fr, h0, nx0⟩)
    (hk : wpos P W ops os ((matA true r ⟨fr, eatH (outH h io outs) eat, nx⟩).2.put d (matA true r ⟨fr, eatH (outH h io outs) eat, nx⟩).1) K) :
    wpos P W ops (⟨d, .call { callee := .value f, args := args, argTypes := ts }, t, p, af, none⟩ :: os) ⟨fr, h, nx⟩ K := by
  simp only [wpos, wpo, guardA]
  refine ⟨fun _ => ?_, by simp⟩
  refine ⟨_, _, ⟨g, first, cap, hf, hg, CallStep.inOk ⟨pm, sargs, sids, io, eat, r, outs, ?_, hc, h1, h2, h3, h4, Prod.ext rfl rfl⟩, hw, hpu⟩, hk⟩
  exact hp
end
inductive Fr where
 | seq (b : Code)
 | block (id : Nat)
 | loop (J : St → Prop)
def runK (P : Program) (W : WP) : List Fr → Ex → St → (Ex → St → Prop) → Prop
 | [], e, st, Q => Q e st
 | .seq b :: ks, .normal, st, Q => wpc P W b st fun e st' => runK P W ks e st' Q
 | .seq _ :: ks, .exit i, st, Q => runK P W ks (.exit i) st Q
 | .seq _ :: ks, .ret, st, Q => runK P W ks .ret st Q
 | .block id :: ks, .exit i, st, Q => if i = id then runK P W ks .normal st Q else runK P W ks (.exit i) st Q
 | .block _ :: ks, .normal, st, Q => runK P W ks .normal st Q
 | .block _ :: ks, .ret, st, Q => runK P W ks .ret st Q
 | .loop J :: _, .normal, st, _ => J st
 | .loop _ :: ks, .exit i, st, Q => runK P W ks (.exit i) st Q
 | .loop _ :: ks, .ret, st, Q => runK P W ks .ret st Q
def go (P : Program) (W : WP) (c : Code) (st : St) (ks : List Fr) (Q : Ex → St → Prop) : Prop := wpc P W c st fun e st' => runK P W ks e st' Q
def KN (P : Program) (W : WP) (i : Nat) (ops : Array Oper) (h0 : Nat → Blk) (ks : List Fr) (Q : Ex → St → Prop) (st : St) : Prop := dOk P (W.d i) ops h0 st ∧ runK P W ks .normal st Q
section
variable {P : Program} {W : WP} {st : St} {ks : List Fr} {Q : Ex → St → Prop} {a b c : Code} {i id : Nat}
theorem go_start (h : go P W c st [] Q) : wpc P W c st Q := by unfold go at h; exact wpc_mono c (fun e st' h => h) h
theorem k_app {ops : Array Oper} {w : FuncId → Bool} {h0 : Nat → Blk} : KN P ⟨w, fun _ => none⟩ i ops h0 ks Q st = runK P ⟨w, fun _ => none⟩ ks .normal st Q := by simp only [KN, dOk, true_and]
theorem r_nil {e : Ex} : runK P W [] e st Q = Q e st := (rfl : _ = _).trans rfl
theorem r_seq : runK P W (.seq b :: ks) .normal st Q = go P W b st ks Q := (rfl : _ = _).trans rfl
theorem r_seqExit : runK P W (.seq b :: ks) (.exit i) st Q = runK P W ks (.exit i) st Q := (rfl : _ = _).trans rfl
theorem r_seqRet : runK P W (.seq b :: ks) .ret st Q = runK P W ks .ret st Q := (rfl : _ = _).trans rfl
theorem r_block : runK P W (.block id :: ks) .normal st Q = runK P W ks .normal st Q := (rfl : _ = _).trans rfl
theorem r_blockExit : runK P W (.block id :: ks) (.exit i) st Q = if i = id then runK P W ks .normal st Q else runK P W ks (.exit i) st Q := (rfl : _ = _).trans rfl
theorem r_blockRet : runK P W (.block id :: ks) .ret st Q = runK P W ks .ret st Q := (rfl : _ = _).trans rfl
theorem r_loop {J : St → Prop} : runK P W (.loop J :: ks) .normal st Q = J st := (rfl : _ = _).trans rfl
theorem r_loopExit {J : St → Prop} : runK P W (.loop J :: ks) (.exit i) st Q = runK P W ks (.exit i) st Q := (rfl : _ = _).trans rfl
theorem r_loopRet {J : St → Prop} : runK P W (.loop J :: ks) .ret st Q = runK P W ks .ret st Q := (rfl : _ = _).trans rfl
theorem k_seq : go P W (a.seq b) st ks Q = go P W a st (.seq b :: ks) Q := by
 unfold go
 simp only [wpc]
 congr 1
 funext e st'
 cases e <;> rfl
theorem k_block : go P W (.block id c) st ks Q = go P W c st (.block id :: ks) Q := by
 unfold go
 simp only [wpc]
 congr 1
 funext e st'
 cases e <;> simp only [Ex.inB, runK]
theorem k_skip : go P W .skip st ks Q = runK P W ks .normal st Q := (rfl : _ = _).trans rfl
theorem k_exit : go P W (.exit i) st ks Q = runK P W ks (.exit i) st Q := (rfl : _ = _).trans rfl
theorem k_ret : go P W .ret st ks Q = runK P W ks .ret st Q := (rfl : _ = _).trans rfl
theorem k_region {l : List Oper} {dr : Bool} {w : FuncId → Bool} {d : Nat → Option (List (Nat × Nat))} : go P ⟨w, d⟩ (.region i l.toArray dr) st ks Q = wpos P w l.toArray l st (KN P ⟨w, d⟩ i l.toArray (lh (d i) st) ks Q) := (rfl : _ = _).trans rfl
theorem dOk_none {ops : Array Oper} {h0 : Nat → Blk} : dOk P none ops h0 st = True := (rfl : _ = _).trans rfl
theorem lh_none : lh none st = noH := (rfl : _ = _).trans rfl
theorem lh_some {ps : List (Nat × Nat)} : lh (some ps) st = if isLk ps then st.h else noH := (rfl : _ = _).trans rfl
theorem dOk_some {ops : Array Oper} {h0 : Nat → Blk} {ps : List (Nat × Nat)} : dOk P (some ps) ops h0 st = if isLk ps then lookL P h0 st ops ps.tail else (apartL st ops ps ∧ pureOL st ops.toList) := (rfl : _ = _).trans rfl
theorem k_cond {x : Operand} {fr : Nat → AV} {h : Nat → Blk} {nx : Nat} : go P W (.cond x a b) ⟨fr, h, nx⟩ ks Q = match evA fr x with
  | .bool true => go P W a ⟨fr, h, nx⟩ ks Q
  | .bool false => go P W b ⟨fr, h, nx⟩ ks Q
  | _ => False := by
 have e : go P W (.cond x a b) ⟨fr, h, nx⟩ ks Q = match evA fr x with
  | .bool t => (t = true → go P W a ⟨fr, h, nx⟩ ks Q) ∧ (t = false → go P W b ⟨fr, h, nx⟩ ks Q)
  | _ => False := rfl
 rw [e]
 cases evA fr x <;> try rfl
 rename_i t
 cases t <;> simp
theorem k_loop {α : Type} (Inv : α → St → Prop) (m : α → Nat) (x : α) (hx : Inv x st)
  (hstep : ∀ (x : α) (st : St), Inv x st → ∀ J : St → Prop, (∀ y st', Inv y st' → m y < m x → J st') → go P W c st (.loop J :: ks) Q) : go P W (.loop c) st ks Q := by
 unfold go
 simp only [wpc]
 intro J hJ
 suffices hs : ∀ n x st, m x = n → Inv x st → J st from hs _ x st rfl hx
 intro n
 induction n using Nat.strongRecOn with
 | _ n ih =>
  intro x st hn hi
  have := hstep x st hi J fun y st' hy hlt => ih (m y) (by omega) y st' rfl hy
  refine hJ st (wpc_mono c (fun e st' h => ?_) this)
  cases e <;> exact h
end
theorem getA? {α : Type} (l : List α) (i : Nat) : l.toArray[i]? = l[i]? := by simp
theorem wrapI {n : Int} (h1 : -9223372036854775808 ≤ n) (h2 : n ≤ 9223372036854775807) : IntKind.i64.wrap n = n := by
 by_cases h : n % 18446744073709551616 ≥ 9223372036854775808 <;> simp [IntKind.wrap, IntKind.signed, IntKind.bits, h] <;> omega
theorem wrapU64 {n : Int} (h1 : 0 ≤ n) (h2 : n ≤ 18446744073709551615) : IntKind.u64.wrap n = n := by
 simp only [IntKind.wrap, IntKind.signed, IntKind.bits, Bool.false_and, Bool.false_eq_true, if_false]; omega
theorem wrapU32 {n : Int} (h1 : 0 ≤ n) (h2 : n ≤ 4294967295) : IntKind.u32.wrap n = n := by
 simp only [IntKind.wrap, IntKind.signed, IntKind.bits, Bool.false_and, Bool.false_eq_true, if_false]; omega
theorem wrapU8 {n : Int} (h1 : 0 ≤ n) (h2 : n ≤ 255) : IntKind.u8.wrap n = n := by
 simp only [IntKind.wrap, IntKind.signed, IntKind.bits, Bool.false_and, Bool.false_eq_true, if_false]; omega
theorem beqT {a b : Int} (h : a = b) : (a == b) = true := by simp [h]
theorem ifAnd {α : Type} {p q : Prop} [Decidable p] [Decidable q] {a b : α} : (if p ∧ q then a else b) = if p then (if q then a else b) else b := by
 by_cases hp : p <;> by_cases hq : q <;> simp [hp, hq]
theorem bneT {a b : Int} (h : a ≠ b) : (a != b) = true := by simp [h]
theorem bneF {a b : Int} (h : a = b) : (a != b) = false := by simp [h]
theorem beqF {a b : Int} (h : a ≠ b) : (a == b) = false := by simp [h]
attribute [go_sem ↓] k_cond x_idx k_block ifAnd k_seq k_skip k_exit k_ret k_region k_app r_nil r_seq r_seqExit r_seqRet r_block r_blockExit r_blockRet r_loop r_loopExit r_loopRet x_nil x_guard x_move x_assign x_pick x_bin x_un x_conv x_slice x_idxAddr x_fieldAddr x_field x_extract x_load x_store x_len x_append x_cap x_copy x_max x_makeSlice x_list0 x_build x_alloc x_box
theorem updA {α : Type} (f : Nat → α) (i : Nat) (v : α) (j : Nat) : upd f i v j = if j = i then v else f j := (upd_app f i v j).trans rfl
section
variable {P : Program} {W : WP} {x : Operand} {a b c : Code} {st : St} {ks : List Fr} {Q : Ex → St → Prop} {i : Nat}
def goS (P : Program) (W : WP) (x : Operand) (a b : Code) (st : St) (ks : List Fr) (Q : Ex → St → Prop) : Prop := go P W (.cond x a b) st ks Q
def goB (P : Program) (W : WP) (i : Nat) (c : Code) (st : St) (ks : List Fr) (Q : Ex → St → Prop) : Prop := go P W (.block i c) st ks Q
theorem k_condStop : go P W (.cond x a b) st ks Q = goS P W x a b st ks Q := (rfl : _ = _).trans rfl
theorem k_blockStop : go P W (.block i c) st ks Q = goB P W i c st ks Q := (rfl : _ = _).trans rfl
end
def wposI (P : Program) (W : FuncId → Bool) (ops : Array Oper) (o : Oper) (os : List Oper) (st : St) (K : St → Prop) : Prop := wpos P W ops (o :: os) st K
theorem x_idxStop {P : Program} {W : FuncId → Bool} {ops : Array Oper} {os : List Oper} {st : St} {K : St → Prop} {d t : Nat} {p : String} {af : Array Edge} {t1 : TypeId} {x i : Operand} : wpos P W ops (⟨some d, .index t1 x i, t, p, af, none⟩ :: os) st K = wposI P W ops ⟨some d, .index t1 x i, t, p, af, none⟩ os st K := (rfl : _ = _).trans rfl
theorem binN_tmp {P : Program} {op : BinOp} {t i : Nat} {ax ay : AV} : binN P op t (.tmp i) ax ay = binA op ax ay := (rfl : _ = _).trans rfl
theorem binN_int {P : Program} {op : BinOp} {t : Nat} {k : IntKind} {n : Int} {ax ay : AV} : binN P op t (.const (.int k n)) ax ay = binA op ax ay := (rfl : _ = _).trans rfl
theorem binN_str {P : Program} {op : BinOp} {t : Nat} {b : ByteArray} {ax ay : AV} : binN P op t (.const (.string b)) ax ay = binA op ax ay := (rfl : _ = _).trans rfl
attribute [go_sem] lh_none binN_tmp binN_int binN_str Option.isSome_some
attribute [go_sem] evA_tmp evA_func evA_int evA_bool evA_str evA_nil updA lenT lenA isBool binA intA unA convA conA_int cutA sliceA zeroI bounds2 bndA indexAddrA loadA storeA ldA partA AV.cells getA? List.getElem?_cons_succ List.getElem?_cons_zero Option.bind_some Option.map_some Option.map_none Option.isSome_some Bool.false_eq_true false_implies St.put St.new fillA setCells
 and_true true_and and_self if_true if_false List.append_nil List.length_nil Nat.add_zero List.drop_zero BEq.rfl Bool.true_beq Bool.false_beq Bool.not_true Bool.not_false forall_const true_implies
attribute [go_sem] if_pos if_neg decide_eq_true decide_eq_false beqT beqF bneT bneF wrapI wrapU32 wrapU64 wrapU8
theorem snapA_pure {st : St} {n : Nat} {v : AV} (h : v.pure = true) : snapA st n v = some (v, []) := by cases n <;> simp [snapA, h]
theorem ownA_pure {st : St} {n : Nat} {v : AV} (h : v.pure = true) : ownA st n v = some (v, []) := by cases n <;> simp [ownA, h]
theorem snapL_pure {st : St} {n : Nat} : ∀ {xs : List AV}, AV.pureL xs = true → snapL (snapA st n) xs = some (xs, [])
 | [], _ => rfl
 | x :: xs, h => by
  simp only [AV.pureL, Bool.and_eq_true] at h
  simp [snapL, snapA_pure h.1, snapL_pure h.2]
theorem snapLo_pure {st : St} {n : Nat} : ∀ {xs : List AV}, AV.pureL xs = true → snapL (ownA st n) xs = some (xs, [])
 | [], _ => rfl
 | x :: xs, h => by
  simp only [AV.pureL, Bool.and_eq_true] at h
  simp [snapL, ownA_pure h.1, snapLo_pure h.2]
theorem snapA_ref {st : St} {d id n off len : Nat} : snapA st (d + 1) (.ref id n off len) = if (st.h id).lv ∧ (st.h id).xs.length = n ∧ off + len ≤ n then
  (snapL (snapA st d) (((st.h id).xs.drop off).take len)).bind fun p => some (.sl (st.h id).t p.1 [] false, id :: p.2) else none := by
 rw [snapA]; simp [AV.pure]
theorem ownA_ref {st : St} {d id n off len : Nat} : ownA st (d + 1) (.ref id n off len) = if (st.h id).lv ∧ (st.h id).xs.length = n ∧ off = 0 ∧ len ≤ n ∧ (st.h id).gr then
  (snapL (ownA st d) ((st.h id).xs.take len)).bind fun p => (if (st.h id).ex then snapL (ownA st d) ((st.h id).xs.drop len) else some ([], [])).bind fun q =>
   some (.own (st.h id).t p.1 q.1 (st.h id).ex, id :: (p.2 ++ q.2)) else none := by
 rw [ownA]; simp [AV.pure]
theorem post_one {P : Program} {fn : Func} {n0 : Nat} {fl : Bool} {t : Tmp} {r : AV} {st : St} {e : Ex} (he : e = .ret ∨ e = .normal) (hr : fn.results.toList = [.tmp t]) (hv : st.fr t = r) (hp : r.pure = true) :
  Post P fn n0 fl false r [] e st := by
 refine ⟨by rcases he with rfl | rfl <;> trivial, r, by rw [hr]; simp [resV, resL, resA, hv], [], ?_, .inl rfl⟩
 simp only [Bool.false_eq_true, if_false]
 exact ⟨snapA_pure hp, by simp⟩
theorem post_two {P : Program} {fn : Func} {n0 : Nat} {fl : Bool} {t u : Tmp} {r s : AV} {st : St} {e : Ex} (he : e = .ret ∨ e = .normal) (hr : fn.results.toList = [.tmp t, .tmp u]) (hv : st.fr t = r) (hw : st.fr u = s) (hp : r.pure = true) (hq : s.pure = true) :
  Post P fn n0 fl false (.tup [r, s]) [] e st := by
 refine ⟨by rcases he with rfl | rfl <;> trivial, .tup [r, s], by rw [hr]; simp [resV, resL, resA, hv, hw], [], ?_, .inl rfl⟩
 simp only [Bool.false_eq_true, if_false]
 exact ⟨snapA_pure (by simp [AV.pure, AV.pureL, hp, hq]), by simp⟩
theorem post_three {P : Program} {fn : Func} {n0 : Nat} {fl : Bool} {t u v : Tmp} {r s q : AV} {st : St} {e : Ex} (he : e = .ret ∨ e = .normal) (hr : fn.results.toList = [.tmp t, .tmp u, .tmp v]) (hv : st.fr t = r) (hw : st.fr u = s) (hx : st.fr v = q) (hp : r.pure = true) (hq : s.pure = true) (hq' : q.pure = true) :
  Post P fn n0 fl false (.tup [r, s, q]) [] e st := by
 refine ⟨by rcases he with rfl | rfl <;> trivial, .tup [r, s, q], by rw [hr]; simp [resV, resL, resA, hv, hw, hx], [], ?_, .inl rfl⟩
 simp only [Bool.false_eq_true, if_false]
 exact ⟨snapA_pure (by simp [AV.pure, AV.pureL, hp, hq, hq']), by simp⟩
theorem post_frozen {P : Program} {fn : Func} {n0 : Nat} {fl : Bool} {t : Tmp} {id n off len T : Nat} {r : List AV} {st : St} {e : Ex} (he : e = .ret ∨ e = .normal) (hr : fn.results.toList = [.tmp t]) (hv : st.fr t = .ref id n off len)
  (hlv : (st.h id).lv = true) (hn : (st.h id).xs.length = n) (ht : (st.h id).t = T) (hl : off + len ≤ n) (hid : n0 ≤ id) (hxs : ((st.h id).xs.drop off).take len = r) (hp : AV.pureL r = true) :
  Post P fn n0 fl false (.sl T r [] false) [] e st := by
 refine ⟨by rcases he with rfl | rfl <;> trivial, .ref id n off len, by rw [hr]; simp [resV, resL, resA, hv], [id], ?_, .inl rfl⟩
 simp only [Bool.false_eq_true, if_false]
 refine ⟨?_, by simpa using hid⟩
 rw [snapA_ref, if_pos ⟨hlv, hn, hl⟩, hxs, snapL_pure hp, ht]; rfl
theorem post_own {P : Program} {fn : Func} {n0 : Nat} {fl : Bool} {t : Tmp} {id n len T : Nat} {r sp : List AV} {ex : Bool} {st : St} {e : Ex} (he : e = .ret ∨ e = .normal) (hr : fn.results.toList = [.tmp t]) (hv : st.fr t = .ref id n 0 len)
  (hlv : (st.h id).lv = true) (hn : (st.h id).xs.length = n) (hg : (st.h id).gr = true) (ht : (st.h id).t = T) (hl : len ≤ n) (hxs : (st.h id).xs.take len = r) (hsp : (if (st.h id).ex = true then (st.h id).xs.drop len else []) = sp) (hex : (st.h id).ex = ex) (hp : AV.pureL r = true) (hq : AV.pureL sp = true) :
  Post P fn n0 fl true (.own T r sp ex) [] e st := by
 refine ⟨by rcases he with rfl | rfl <;> trivial, .ref id n 0 len, by rw [hr]; simp [resV, resL, resA, hv], [id], ?_, .inl rfl⟩
 simp only [if_true]
 refine ⟨?_, by simp⟩
 rw [ownA_ref, if_pos ⟨hlv, hn, rfl, hl, hg⟩, hxs, snapLo_pure hp, ht]
 rw [hex] at hsp
 simp only [hex, Option.bind_some]
 cases ex with
 | true => simp only [if_true] at hsp ⊢; rw [hsp, snapLo_pure hq]; simp
 | false => simp only [Bool.false_eq_true, if_false] at hsp ⊢; subst hsp; simp
section
variable {P : Program} {W : FuncId → Bool} {ops : Array Oper} {os : List Oper} {fr : Nat → AV} {h : Nat → Blk} {nx : Nat} {K : St → Prop} {d t : Nat} {p : String} {af : Array Edge}
theorem passL_pure {st : St} : ∀ {xs : List AV}, AV.pureL xs = true → passL st (xs.map fun _ => .snap) xs = some (xs, [], [], [])
 | [], _ => rfl
 | x :: xs, h => by
  simp only [AV.pureL, Bool.and_eq_true] at h
  simp [passL, passA, snapA_pure h.1, passL_pure h.2]
theorem x_callP {g : FuncId} {args : Array Operand} {ts : Array TypeId} {sargs : List AV} {r : AV}
    (hc : CallOk P g sargs r []) (hg : callable P g = true) (ha : args.toList.map (evA fr) = sargs) (hp : AV.pureL sargs = true) (hr : r.pure = true)
    (hk : wpos P W ops os ⟨upd fr d r, h, nx⟩ K) :
    wpos P W ops (⟨some d, .call { callee := .value (.func g), args := args, argTypes := ts }, t, p, af, none⟩ :: os) ⟨fr, h, nx⟩ K := by
  have he : eatH (outH h [] []) [] = h := by funext i; simp [eatH, outH]
  refine x_call (g := g) (first := []) (cap := []) (pm := sargs.map fun _ => .snap) (outs := []) hc rfl hg (by simp only [List.nil_append, List.append_nil, ha]; exact passL_pure hp) ?_ (by simp) (by simp) (.inl rfl) (.inl rfl) ?_ ?_
  · intro _; rw [matA_pure _ _ _ hr, he]; exact ⟨rfl, rfl⟩
  · intro _ _ h0 nx0; simp only [List.nil_append, List.append_nil, ha]; rw [matA_pure _ _ _ hr]; exact hc.inOk' hp hr
  · rw [matA_pure _ _ _ hr, he]; exact hk
theorem x_callO {g : FuncId} {args : Array Operand} {ts : Array TypeId} {sargs : List AV} {T : Nat} {xs sp : List AV} {ex : Bool}
    (hc : CallOk P g sargs (.own T xs sp ex) []) (hg : callable P g = true) (ha : args.toList.map (evA fr) = sargs) (hp : AV.pureL sargs = true) (hr : AV.pureL xs = true) (hs : AV.pureL sp = true) (hW : W g = true)
    (hk : wpos P W ops os ⟨upd fr d (.ref nx (xs.length + sp.length) 0 xs.length), upd h nx ⟨T, xs ++ sp, ex, true, true⟩, nx + 1⟩ K) :
    wpos P W ops (⟨some d, .call { callee := .value (.func g), args := args, argTypes := ts }, t, p, af, none⟩ :: os) ⟨fr, h, nx⟩ K := by
  have he : eatH (outH h [] []) [] = h := by funext i; simp [eatH, outH]
  refine x_call (g := g) (first := []) (cap := []) (pm := sargs.map fun _ => .snap) (outs := []) hc rfl hg (by simp only [List.nil_append, List.append_nil, ha]; exact passL_pure hp) ?_ (by simp) (by simp) (.inl rfl) (.inl rfl) ?_ ?_
  · intro hw; simp [isW, hW] at hw
  · intro hw; simp [isW, hW] at hw
  · simp only [matA, matL_pure _ _ _ hr, matL_pure _ _ _ hs, he]; exact hk
end
def Sub (P : Program) (x y : AV) : Prop := ∀ E v L, ownR P E x v L → ownR P E y v L
def SubL (P : Program) (xs ys : List AV) : Prop := ∀ E vs L, ownRL P E xs vs L → ownRL P E ys vs L
section
variable {P : Program}
theorem Sub.refl (x : AV) : Sub P x x := fun _ _ _ h => h
theorem Sub.trans {x y z : AV} (h : Sub P x y) (k : Sub P y z) : Sub P x z := fun E v L hx => k E v L (h E v L hx)
theorem SubL.nil : SubL P [] [] := fun _ _ _ h => h
theorem SubL.refl (xs : List AV) : SubL P xs xs := fun _ _ _ h => h
theorem SubL.cons {x y : AV} {xs ys : List AV} (h : Sub P x y) (k : SubL P xs ys) : SubL P (x :: xs) (y :: ys) := by
 intro E vs L hx
 simp only [ownRL] at hx ⊢
 obtain ⟨v, us, L1, L2, h1, h2, h3, h4⟩ := hx
 exact ⟨v, us, L1, L2, h1, h2, h E v L1 h3, k E us L2 h4⟩
theorem sub_agg {xs ys : List AV} (h : SubL P xs ys) : Sub P (.agg xs) (.agg ys) := by
 intro E v L hx
 simp only [ownR] at hx ⊢
 obtain ⟨vs, h1, h2⟩ := hx
 exact ⟨vs, h1, h E vs L h2⟩
theorem sub_tup {xs ys : List AV} (h : SubL P xs ys) : Sub P (.tup xs) (.tup ys) := by
 intro E v L hx
 simp only [ownR] at hx ⊢
 obtain ⟨vs, h1, h2⟩ := hx
 exact ⟨vs, h1, h E vs L h2⟩
theorem sub_nil {t : Nat} {ex : Bool} : Sub P .nil (.sl t [] [] ex) := by
 intro E v L hx
 simp only [ownR, rep] at hx ⊢
 obtain ⟨h1, a, h2⟩ := hx
 exact ⟨h1, by simp [AV.pure, AV.pureL], a, 0, by simpa using h2, by simp, by simp, by simp, [], [], by simp [repL], by simp [repL], by simp⟩
theorem cellsAt_take {c : Array Value} {off sz : Nat} {vs us : List Value} (h : CellsAt c off sz (vs ++ us)) : CellsAt c off sz vs := by
 intro i v hv
 refine h i v ?_
 rw [List.getElem?_append_left (List.getElem?_eq_some_iff.1 hv).1]; exact hv
theorem sub_sl {t : Nat} {xs sp : List AV} {ex : Bool} : Sub P (.sl t xs sp ex) (.sl t xs [] false) := by
 intro E v L hx
 simp only [ownR, rep] at hx ⊢
 obtain ⟨h1, hp, a, cap, h2, h3, h4, h5, vs, us, h6, h7, h8⟩ := hx
 simp only [AV.pure, Bool.and_eq_true] at hp
 refine ⟨h1, by simp [AV.pure, AV.pureL, hp.1], a, cap, h2, by simp; omega, by simp, fun x hx => h5 x (by simp at hx ⊢; exact .inl hx), vs, [], h6, by simp [repL], fun hne => ?_⟩
 obtain ⟨b, off, c, fz, k1, k2, k3, k4⟩ := h8 (by simp at hne ⊢; intro h; exact absurd h hne)
 exact ⟨b, off, c, fz, k1, k2, k3, by rw [List.append_nil]; exact cellsAt_take k4⟩
def SubEl (P : Program) (x y : AV) : Prop := Sub P x y ∧ x.pure = true ∧ y.pure = true ∧ ∀ t, x.el P t = true → y.el P t = true
inductive SubLL (P : Program) : List AV → List AV → Prop
 | nil : SubLL P [] []
 | cons {x y : AV} {xs ys : List AV} : SubEl P x y → SubLL P xs ys → SubLL P (x :: xs) (y :: ys)
theorem SubLL.length {xs ys : List AV} (h : SubLL P xs ys) : xs.length = ys.length := by induction h <;> simp_all
theorem SubLL.pure {xs ys : List AV} (h : SubLL P xs ys) : AV.pureL xs = true ∧ AV.pureL ys = true := by
 induction h with
 | nil => simp [AV.pureL]
 | cons h _ ih => simp [AV.pureL, h.2.1, h.2.2.1, ih]
theorem SubLL.el {xs ys : List AV} {t : Nat} (h : SubLL P xs ys) : (∀ x ∈ xs, x.el P t = true) → ∀ y ∈ ys, y.el P t = true := by
 induction h with
 | nil => simp
 | cons h _ ih => intro hx; simp only [List.forall_mem_cons] at hx ⊢; exact ⟨h.2.2.2 t hx.1, ih hx.2⟩
theorem SubLL.rep {xs ys : List AV} {E : Env} (h : SubLL P xs ys) : ∀ {vs : List Value}, repL P E xs vs → repL P E ys vs := by
 induction h with
 | nil => exact fun h => h
 | @cons x y xs ys h _ ih =>
  intro vs hv
  simp only [repL] at hv ⊢
  obtain ⟨v, us, h1, h2, h3⟩ := hv
  refine ⟨v, us, h1, ?_, ih h3⟩
  exact (rep_of_ownR y v [] h.2.2.1 (h.1 E v [] (ownR_of_pure x v h.2.1 h2))).2
theorem sub_slL {t : Nat} {xs ys : List AV} (h : SubLL P xs ys) : Sub P (.sl t xs [] false) (.sl t ys [] false) := by
 intro E v L hx
 simp only [ownR, Go.Proofs.YtdljcbbodihagaaGreatDoor.rep] at hx ⊢
 obtain ⟨h1, hp, a, cap, h2, h3, h4, h5, vs, us, h6, h7, h8⟩ := hx
 refine ⟨h1, by simp [AV.pure, AV.pureL, h.pure.2], a, cap, by rw [← h.length]; exact h2, by rw [← h.length]; exact h3, by simp, ?_, vs, us, h.rep h6, h7, by rw [← h.length]; exact h8⟩
 rw [List.append_nil] at h5 ⊢
 exact h.el h5
theorem CallOk.res {f : FuncId} {args : List AV} {r r' : AV} {outs : List (List AV)} (h : CallOk P f args r outs) (hs : Sub P r r') : CallOk P f args r' outs := by
 intro w I vs L h1 h2 h3
 refine (h w I vs L h1 h2 h3).mono ?_
 rintro e w' ⟨v, I', L', k1, k2, k3, k4, k5, k6, k7, k8, k9⟩
 exact ⟨v, I', L', k1, k2, k3, k4, k5, hs _ _ _ k6, k7, k8, k9⟩
theorem CallOk.args {f : FuncId} {args args' : List AV} {r : AV} {outs : List (List AV)} (h : CallOk P f args' r outs) (hs : SubL P args args') : CallOk P f args r outs :=
 fun w I vs L h1 h2 h3 => h w I vs L h1 (hs _ _ _ h2) h3
end
def PostIn (P : Program) (fn : Func) (x : AV) (h' : Nat → Blk) (nx' : Nat) (e : Ex) (st : St) : Prop :=
 (match e with | .exit _ => False | _ => True) ∧ resV P st fn.results.toList = some x ∧ st.h = h' ∧ st.nx = nx'
theorem inOk_of_wpcD {P : Program} {W : WP} {f : FuncId} {fn : Func} {c : Code} {args : List AV} {x : AV} {fr : Nat → AV} {h h' : Nat → Blk} {nx nx' : Nat} (hm : P.follows .mixedOrders = true) (hf : P.funcs[f]? = some fn) (hb : fn.body = some c)
    (hok : codeOk W fn.ntmps c = true) (hn : args.length ≤ fn.ntmps) (hw : wpc P W c ⟨fun i => args.getD i .undef, h, nx⟩ (PostIn P fn x h' nx')) : InOk P ⟨fr, h, nx⟩ f args x ⟨fr, h', nx'⟩ := by
  refine ⟨rfl, fun E vs hE hh hnx has => ?_⟩
  simp only at hh hnx
  have hargl : args.length = vs.length := (repL_length has).symm
  refine calls_of_wp hf hb ?_
  have hR : Rel P E ⟨fun i => args.getD i .undef, h, nx⟩ { tmps := vs.toArray ++ Array.replicate (fn.ntmps - vs.toArray.size) undef, defers := [] } := by
    refine ⟨hE, hh, hnx, fun t => ?_⟩
    by_cases ht : t < args.length
    · have h1 : args[t]? = some (args[t]'(by omega)) := List.getElem?_eq_getElem (by omega)
      obtain ⟨v, hv, hr⟩ := repL_get has t _ h1
      simp only [List.getD_eq_getElem?_getD, h1]
      rw [Array.getD_eq_getD_getElem?, Array.getElem?_append_left (by simp; omega)]
      have : vs.toArray[t]? = some v := by simpa using hv
      rw [this]; exact hr
    · simp only [List.getD_eq_getElem?_getD]
      rw [List.getElem?_eq_none (by omega)]
      simp [rep]
  have hsize : (vs.toArray ++ Array.replicate (fn.ntmps - vs.toArray.size) undef).size = fn.ntmps := by simp; omega
  refine wp_mono (wpc_sound hm c hok _ _ _ E hw hR hsize rfl) fun e a' w' hq => ?_
  obtain ⟨y, st', E', rfl, ⟨hy, hv, h1, h2⟩, rfl, hR', hn', hd', hle, hgo⟩ := hq
  obtain ⟨u, hres, hru⟩ := resV_sound hR' hv
  have hend : bodyPost P fn (fun e w' => ∃ v E', e = .returned v ∧ E'.w = w' ∧ E'.h = h' ∧ E'.nx = nx' ∧ E.Le E' ∧ Ok P E' ∧ Goes P E E' ∧ rep P E' x v) .ret a' E'.w :=
    ⟨hd', u, hres, u, E', rfl, rfl, by rw [← hR'.h, h1], by rw [← hR'.nx, h2], hle, hR'.ok, hgo, hru⟩
  cases y with
  | normal => exact hend
  | ret => exact hend
  | exit i => exact hy.elim
theorem postIn_one {P : Program} {fn : Func} {t : Tmp} {x : AV} {st : St} {e : Ex} {h' : Nat → Blk} {nx' : Nat} (he : e = .ret ∨ e = .normal) (hr : fn.results.toList = [.tmp t]) (hv : st.fr t = x) (h1 : st.h = h') (h2 : st.nx = nx') : PostIn P fn x h' nx' e st :=
 ⟨by rcases he with rfl | rfl <;> trivial, by rw [hr]; simp [resV, resL, resA, hv], h1, h2⟩
theorem inOk_of_wpc {P : Program} {W : FuncId → Bool} {f : FuncId} {fn : Func} {c : Code} {args : List AV} {x : AV} {fr : Nat → AV} {h h' : Nat → Blk} {nx nx' : Nat} (hm : P.follows .mixedOrders = true) (hf : P.funcs[f]? = some fn) (hb : fn.body = some c)
  (hok : codeOk ⟨W, fun _ => none⟩ fn.ntmps c = true) (hn : args.length ≤ fn.ntmps) (hw : wpc P ⟨W, fun _ => none⟩ c ⟨fun i => args.getD i .undef, h, nx⟩ (PostIn P fn x h' nx')) : InOk P ⟨fr, h, nx⟩ f args x ⟨fr, h', nx'⟩ := inOk_of_wpcD hm hf hb hok hn hw
theorem eatH_xs (h : Nat → Blk) (ids : List Nat) (i : Nat) : (eatH h ids i).xs = (h i).xs ∧ (eatH h ids i).t = (h i).t ∧ (eatH h ids i).gr = (h i).gr ∧ (eatH h ids i).ex = (h i).ex := by
 unfold eatH; split <;> exact ⟨rfl, rfl, rfl, rfl⟩
theorem eatH_lv {h : Nat → Blk} {ids : List Nat} {i : Nat} (hl : (eatH h ids i).lv = true) : i ∉ ids ∧ (h i).lv = true ∧ eatH h ids i = h i := by
  unfold eatH at hl ⊢
  split at hl
  · simp at hl
  · rename_i hi; exact ⟨hi, hl, by simp [hi]⟩
theorem inOk_freeze {P : Program} {st st' : St} {g : FuncId} {as0 as1 : List AV} {ids : List Nat} {x : AV} (hs : snapL (snapA st 8) as0 = some (as1, ids)) (hg : ∀ i ∈ ids, (st.h i).gr = true)
    (h : InOk P { st with h := eatH st.h ids } g as1 x st') : InOk P st g as0 x st' := by
  refine ⟨h.1, fun E vs hE hh hnx has => ?_⟩
  have hsound : ∀ (as0 as1 : List AV) (ids : List Nat) (vs : List Value), snapL (snapA st 8) as0 = some (as1, ids) → repL P E as0 vs → AV.pureL as1 = true ∧ repL P (E.shut ids) as1 vs ∧ ∀ i ∈ ids, (E.h i).lv = true := by
    intro as0
    induction as0 with
    | nil =>
      intro as1 ids vs h hr
      simp only [snapL, Option.some.injEq, Prod.mk.injEq] at h
      obtain ⟨rfl, rfl⟩ := h
      simp only [repL] at hr
      exact ⟨by simp [AV.pureL], by simpa [repL] using hr, by simp⟩
    | cons a as0 ih =>
      intro as1 ids vs h hr
      obtain ⟨y, i, ys, is, h1, h2, h3⟩ := snapL_cons h
      simp only [Prod.mk.injEq] at h3
      obtain ⟨rfl, rfl⟩ := h3
      simp only [repL] at hr
      obtain ⟨v, us, rfl, hv, hus⟩ := hr
      obtain ⟨p1, p2, p3⟩ := snapA_sound hE hh 8 a y i v h1 hv
      obtain ⟨q1, q2, q3⟩ := ih ys is us h2 hus
      refine ⟨by simp [AV.pureL, p1, q1], ?_, fun j hj => (List.mem_append.1 hj).elim (p3 j) (q3 j)⟩
      simp only [repL]
      exact ⟨v, us, rfl, shut_mono (fun a ha => List.mem_append.2 (.inl ha)) p1 p2, shutL_mono (fun a ha => List.mem_append.2 (.inr ha)) q1 q2⟩
  obtain ⟨s1, s2, s3⟩ := hsound as0 as1 ids vs hs has
  obtain ⟨E1, hE1⟩ : ∃ E1 : Env, E1 = ⟨E.w, (E.shut ids).I, E.m, eatH E.h ids, E.nx⟩ := ⟨_, rfl⟩
  have hLe : E.Le E1 := by
    rw [hE1]
    refine ⟨Nat.le_refl _, fun b hb => ⟨.inl hb, rfl⟩, fun i hi => by rw [(eatH_xs E.h ids i).1]; exact Nat.le_refl _, fun i hi n hn h1 h2 => ?_⟩
    obtain ⟨_, k2, k3⟩ := eatH_lv h1
    simp only [k3] at h2 ⊢
    exact ⟨k2, h2, by simp, by simp⟩
  have hGo : Goes P E E1 := by
    rw [hE1]
    refine ⟨rfl, rfl, rfl, Nat.le_refl _, fun _ _ _ => rfl, fun _ _ c h => ⟨c, h, rfl, fun _ _ => rfl⟩, fun i hi => ?_, fun b hb => ?_, Nat.le_refl _, fun i _ => (eatH_xs E.h ids i).2.2.1⟩
    · obtain ⟨_, k2, k3⟩ := eatH_lv hi
      exact .inl ⟨k2, rfl, by simp only [k3], by simp only [Env.lim, k3]⟩
    · rcases hb with h | ⟨i, hi, h1, h2⟩
      · exact .inl h
      · exact .inr (.inr ⟨i, h1, by rw [← hh]; exact hg i hi, h2⟩)
  have hOk : Ok P E1 := by
    refine ⟨fun i hi => ?_, fun i j hi hj e => ?_, fun b hb => ?_, hE.tab.le hLe⟩
    · have hi' : (eatH E.h ids i).lv = true := by rw [hE1] at hi; exact hi
      obtain ⟨k1, k2, k3⟩ := eatH_lv hi'
      have B := hE.blk i k2
      obtain ⟨c, ws, a1, a2, a3, a4⟩ := B.at_
      have e : E1.h i = E.h i := by rw [hE1]; exact k3
      have em : E1.m i = E.m i := by rw [hE1]
      refine ⟨by rw [hE1]; exact B.lt, by rw [e, em]; exact B.gr, by rw [e, em]; exact B.ex, by rw [e, em]; exact B.le, by rw [e]; exact B.cl, ?_, c, ws, by rw [e, em, hE1]; exact a1, by rw [e]; exact repL_mono hLe _ _ a2, by rw [e, em]; exact a3, by rw [e, em]; exact a4⟩
      rw [em, hE1]
      rintro (h | ⟨j, hj, h1, h2⟩)
      · exact B.dark h
      · exact k1 (hE.inj j i h1 k2 h2 ▸ hj)
    · rw [hE1] at hi hj e
      exact hE.inj i j (eatH_lv hi).2.1 (eatH_lv hj).2.1 e
    · rw [hE1] at hb ⊢
      rcases hb with h | ⟨i, hi, h1, h2⟩
      · exact hE.imm b h
      · obtain ⟨c, ws, a1, _⟩ := (hE.blk i h1).at_
        rw [← h2]; exact lt_of_heap a1
  have hrep : repL P E1 as1 vs := by rw [hE1]; exact repL_pure (E := E.shut ids) (E' := ⟨E.w, (E.shut ids).I, E.m, eatH E.h ids, E.nx⟩) (fun b hb => ⟨hb, rfl⟩) as1 vs s1 s2
  have hw : E1.w = E.w := by rw [hE1]
  have := h.2 E1 vs hOk (by rw [hE1]; simp only [hh]) (by rw [hE1]; exact hnx) hrep
  rw [hw] at this
  refine this.mono ?_
  rintro e w' ⟨v, E', h1, h2, h3, h4, h5, h6, h7, h8⟩
  exact ⟨v, E', h1, h2, h3, h4, hLe.trans h5, h6, hGo.trans hE h7, h8⟩
section
variable {P : Program} {W : FuncId → Bool} {ops : Array Oper} {os : List Oper} {fr : Nat → AV} {h : Nat → Blk} {nx : Nat} {K : St → Prop} {d t : Nat} {p : String} {af : Array Edge}
theorem CallOk.inOk {g : FuncId} {sargs : List AV} {r : AV} (hc : CallOk P g sargs r []) (hp : AV.pureL sargs = true) (hr : r.pure = true) : InOk P ⟨fr, h, nx⟩ g sargs r ⟨fr, h, nx⟩ := by
 have he : eatH (outH h [] []) [] = h := by funext i; simp [eatH, outH]
 have : CallStep P ⟨fr, h, nx⟩ g sargs r ⟨fr, h, nx⟩ := ⟨sargs.map fun _ => .snap, sargs, [], [], [], r, [], passL_pure hp, hc, by simp, by simp, .inl rfl, .inl rfl, by
  rw [matA_pure _ _ _ hr, he]⟩
 exact this.inOk
theorem CallOk.inOkO {g : FuncId} {sargs : List AV} {T : Nat} {xs sp : List AV} {ex : Bool} (hc : CallOk P g sargs (.own T xs sp ex) []) (hp : AV.pureL sargs = true) (hr : AV.pureL xs = true) (hs : AV.pureL sp = true) :
  InOk P ⟨fr, h, nx⟩ g sargs (.ref nx (xs.length + sp.length) 0 xs.length) ⟨fr, upd h nx ⟨T, xs ++ sp, ex, true, true⟩, nx + 1⟩ := by
 have he : eatH (outH h [] []) [] = h := by funext i; simp [eatH, outH]
 have : CallStep P ⟨fr, h, nx⟩ g sargs (.ref nx (xs.length + sp.length) 0 xs.length) ⟨fr, upd h nx ⟨T, xs ++ sp, ex, true, true⟩, nx + 1⟩ :=
  ⟨sargs.map fun _ => .snap, sargs, [], [], [], .own T xs sp ex, [], passL_pure hp, hc, by simp, by simp, .inl rfl, .inl rfl, by
  simp only [matA, matL_pure _ _ _ hr, matL_pure _ _ _ hs, he, St.new]⟩
 exact this.inOk
theorem x_callF {g : FuncId} {args : Array Operand} {ts : Array TypeId} {as0 as1 : List AV} {ids : List Nat} {r : AV}
  (hc : CallOk P g as1 r []) (hg : callable P g = true) (ha : args.toList.map (evA fr) = as0) (hs : snapL (snapA ⟨fr, h, nx⟩ 8) as0 = some (as1, ids)) (hgr : ∀ i ∈ ids, (h i).gr = true) (hp : AV.pureL as1 = true) (hr : r.pure = true) (hW : W g = true)
  (hk : wpos P W ops os ⟨upd fr d r, eatH h ids, nx⟩ K) :
  wpos P W ops (⟨some d, .call { callee := .value (.func g), args := args, argTypes := ts }, t, p, af, none⟩ :: os) ⟨fr, h, nx⟩ K :=
 x_callIn (g := g) (first := []) (cap := []) (as0 := as0) (x := r) (h' := eatH h ids) (nx' := nx) (inOk_freeze hs hgr (hc.inOk hp hr)) rfl hg (by simpa using ha) (by intro hw; simp [isW, hW] at hw) (by intro hw; simp [isW, hW] at hw) hk
theorem x_callI {g : FuncId} {args : Array Operand} {ts : Array TypeId} {as0 : List AV} {x : AV} {h' : Nat → Blk} {nx' : Nat}
    (hc : InOk P ⟨fr, h, nx⟩ g as0 x ⟨fr, h', nx'⟩) (hg : callable P g = true) (ha : args.toList.map (evA fr) = as0) (hW : W g = true ∨ h' = h ∧ nx' = nx)
    (hk : wpos P W ops os ⟨upd fr d x, h', nx'⟩ K) (hpu : W g = true ∨ AV.pureL as0 = false := by first | exact .inl rfl | exact .inr (by simp [AV.pureL, AV.pure])) :
    wpos P W ops (⟨some d, .call { callee := .value (.func g), args := args, argTypes := ts }, t, p, af, none⟩ :: os) ⟨fr, h, nx⟩ K :=
  x_callIn (g := g) (first := []) (cap := []) (as0 := as0) (x := x) (h' := h') (nx' := nx') hc rfl hg (by simpa using ha) (by
    intro hw
    rcases hW with h | h
    · simp [isW, h] at hw
    · exact h) (by
    intro hw hp
    rcases hpu with h | h
    · simp [isW, h] at hw
    · rw [h] at hp; cases hp) hk
end
structure Hide (p : Prop) : Prop where
 get : p
theorem snap_frozen {st : St} {d id n off len T : Nat} {r : List AV} (hlv : (st.h id).lv = true) (hn : (st.h id).xs.length = n) (ht : (st.h id).t = T) (hl : off + len ≤ n) (hxs : ((st.h id).xs.drop off).take len = r) (hp : AV.pureL r = true) :
  snapA st (d + 1) (.ref id n off len) = some (.sl T r [] false, [id]) := by
 rw [snapA_ref, if_pos ⟨hlv, hn, hl⟩, hxs, snapL_pure hp, ht]; rfl
theorem post_tup {P : Program} {fn : Func} {n0 : Nat} {fl : Bool} {t u : Tmp} {v w r s : AV} {i j : List Nat} {st : St} {e : Ex} (he : e = .ret ∨ e = .normal) (hr : fn.results.toList = [.tmp t, .tmp u]) (hv : st.fr t = v) (hw : st.fr u = w)
  (h1 : snapA st 7 v = some (r, i)) (h2 : snapA st 7 w = some (s, j)) (hi : ∀ a ∈ i ++ j, n0 ≤ a) (hnp : v.pure = false ∨ w.pure = false) :
  Post P fn n0 fl false (.tup [r, s]) [] e st := by
 refine ⟨by rcases he with rfl | rfl <;> trivial, .tup [v, w], by rw [hr]; simp [resV, resL, resA, hv, hw], i ++ j, ?_, .inl rfl⟩
 simp only [Bool.false_eq_true, if_false]
 refine ⟨?_, hi⟩
 have : snapA st (7 + 1) (.tup [v, w]) = some (.tup [r, s], i ++ j) := by
  rw [snapA]
  have hp : (AV.tup [v, w]).pure = false := by rcases hnp with h | h <;> simp [AV.pure, AV.pureL, h]
  simp [hp, snapL, h1, h2]
 exact this
attribute [go_sem] stA List.length_cons Nat.zero_add Nat.le_refl appendA winA partsA List.map_cons List.map_nil List.toList_toArray List.all_cons List.all_nil Bool.and_true Bool.true_and Nat.mul_one Nat.one_mul ne_eq not_true_eq_false not_false_eq_true
attribute [go_sem ↓] x_list
section
def val (B : Nat) : List Nat → Nat
 | [] => 0
 | d :: ds => d + B * val B ds
def enc (B n : Nat) : List Nat :=
 if h : n = 0 ∨ B ≤ 1 then [] else n % B :: enc B (n / B)
termination_by n
decreasing_by exact Nat.div_lt_self (by omega) (by omega)
theorem enc_zero (B : Nat) : enc B 0 = [] := by rw [enc]; simp
theorem enc_pos {B n : Nat} (hB : 1 < B) (hn : n ≠ 0) : enc B n = n % B :: enc B (n / B) := by rw [enc]; simp [hn]; omega
theorem val_enc {B : Nat} (hB : 1 < B) (n : Nat) : val B (enc B n) = n := by
  induction n using Nat.strongRecOn with
  | _ n ih =>
    by_cases hn : n = 0
    · subst hn; simp [enc_zero, val]
    · rw [enc_pos hB hn, val, ih _ (Nat.div_lt_self (by omega) hB)]; exact Nat.mod_add_div n B
theorem enc_lt {B : Nat} (hB : 1 < B) (n : Nat) : ∀ d ∈ enc B n, d < B := by
  induction n using Nat.strongRecOn with
  | _ n ih =>
    by_cases hn : n = 0
    · subst hn; simp [enc_zero]
    · rw [enc_pos hB hn]
      intro d hd
      rcases List.mem_cons.1 hd with rfl | hd
      · exact Nat.mod_lt _ (by omega)
      · exact ih _ (Nat.div_lt_self (by omega) hB) d hd
theorem enc_nil {B n : Nat} (hB : 1 < B) : enc B n = [] ↔ n = 0 := by
  constructor
  · intro h; have := val_enc hB n; rw [h] at this; simpa [val] using this.symm
  · rintro rfl; exact enc_zero B
theorem val_append (B : Nat) (xs ys : List Nat) : val B (xs ++ ys) = val B xs + B ^ xs.length * val B ys := by
 induction xs with
 | nil => simp [val]
 | cons x xs ih => simp only [List.cons_append, val, ih, List.length_cons, Nat.pow_succ, Nat.mul_add]; rw [Nat.mul_comm (B ^ xs.length) B, Nat.mul_assoc]; omega
theorem val_lt {B : Nat} {xs : List Nat} (h : ∀ d ∈ xs, d < B) : val B xs < B ^ xs.length := by
 induction xs with
 | nil => simp [val]
 | cons x xs ih =>
  simp only [List.forall_mem_cons] at h
  have := ih h.2
  simp only [val, List.length_cons, Nat.pow_succ]
  calc x + B * val B xs < B + B * val B xs := by omega
   _ = B * (val B xs + 1) := by rw [Nat.mul_add, Nat.mul_one, Nat.add_comm]
   _ ≤ B * B ^ xs.length := Nat.mul_le_mul_left _ this
   _ = B ^ xs.length * B := Nat.mul_comm ..
def trimZ (xs : List Nat) : List Nat := (xs.reverse.dropWhile (· == 0)).reverse
theorem trimZ_nil : trimZ [] = [] := rfl
theorem trimZ_zero (xs : List Nat) : trimZ (xs ++ [0]) = trimZ xs := by simp [trimZ]
theorem trimZ_pos (xs : List Nat) {x : Nat} (h : x ≠ 0) : trimZ (xs ++ [x]) = xs ++ [x] := by simp [trimZ, h]
theorem enc_val {B : Nat} (hB : 1 < B) : ∀ {xs : List Nat}, (∀ d ∈ xs, d < B) → (∀ x, xs.getLast? = some x → x ≠ 0) → enc B (val B xs) = xs
 | [], _, _ => by simp [val, enc_zero]
 | [x], h, h0 => by
  have hx : x ≠ 0 := h0 x rfl
  have hl : x < B := h x (by simp)
  simp only [val, Nat.mul_zero, Nat.add_zero]
  rw [enc_pos hB hx, Nat.mod_eq_of_lt hl, Nat.div_eq_of_lt hl, enc_zero]
 | x :: y :: zs, h, h0 => by
  have hl : x < B := h x (by simp)
  have ih := enc_val hB (xs := y :: zs) (fun d hd => h d (by simp at hd ⊢; exact .inr hd)) (fun z hz => h0 z (by simpa [List.getLast?_cons_cons] using hz))
  have hne : val B (y :: zs) ≠ 0 := fun he => by rw [he, enc_zero] at ih; cases ih
  have hp : 0 < val B (y :: zs) := by omega
  rw [val]
  have hpos : x + B * val B (y :: zs) ≠ 0 := by
   have : 0 < B * val B (y :: zs) := Nat.mul_pos (by omega) hp
   omega
  rw [enc_pos hB hpos, Nat.add_mul_mod_self_left, Nat.mod_eq_of_lt hl, Nat.add_mul_div_left _ _ (by omega), Nat.div_eq_of_lt hl, Nat.zero_add, ih]
theorem trimZ_enc {B : Nat} (hB : 1 < B) {xs : List Nat} (h : ∀ d ∈ xs, d < B) : trimZ xs = enc B (val B xs) := by
  induction hn : xs.length using Nat.strongRecOn generalizing xs with
  | _ n ih =>
    rcases List.eq_nil_or_concat xs with rfl | ⟨ys, y, rfl⟩
    · simp [trimZ, val, enc_zero]
    · rw [List.concat_eq_append] at *
      by_cases hy : y = 0
      · subst hy
        rw [trimZ_zero, ih ys.length (by simp at hn; omega) (fun d hd => h d (by simp [hd])) rfl, val_append]; simp [val]
      · rw [trimZ_pos ys hy, enc_val hB h (fun x hx => by simp at hx; omega)]
theorem enc_last {B : Nat} (hB : 1 < B) (n : Nat) : ∀ x, (enc B n).getLast? = some x → x ≠ 0 := by
  induction n using Nat.strongRecOn with
  | _ n ih =>
    by_cases hn : n = 0
    · subst hn; simp [enc_zero]
    · rw [enc_pos hB hn]
      intro x hx
      by_cases hq : n / B = 0
      · rw [hq, enc_zero] at hx
        simp at hx
        have : n < B := by
          rcases Nat.div_eq_zero_iff.1 hq with h | h
          · omega
          · exact h
        rw [Nat.mod_eq_of_lt this] at hx; omega
      · rw [enc_pos hB hq, List.getLast?_cons_cons, ← enc_pos hB hq] at hx
        exact ih _ (Nat.div_lt_self (by omega) hB) x hx
theorem enc_len_pow {B : Nat} (hB : 1 < B) {n : Nat} : n < B ^ (enc B n).length := by
 have := val_lt (enc_lt hB n); rwa [val_enc hB] at this
theorem enc_len_le {B : Nat} (hB : 1 < B) {n k : Nat} (h : n < B ^ k) : (enc B n).length ≤ k := by
  induction k generalizing n with
  | zero => have : n = 0 := by simpa using h
            subst this; simp [enc_zero]
  | succ k ih =>
    by_cases hn : n = 0
    · subst hn; simp [enc_zero]
    · rw [enc_pos hB hn, List.length_cons]
      have : n / B < B ^ k := by rw [Nat.div_lt_iff_lt_mul (by omega), ← Nat.pow_succ]; exact h
      have := ih this; omega
theorem enc_len_ge {B : Nat} (hB : 1 < B) {n k : Nat} (h : B ^ k ≤ n) : k < (enc B n).length := by
  rcases Nat.lt_or_ge k (enc B n).length with h' | h'
  · exact h'
  · have h1 := enc_len_pow hB (n := n)
    have := Nat.pow_le_pow_right (show 0 < B by omega) h'
    omega
theorem val_inj {B : Nat} (hB : 1 < B) {a b : Nat} (h : enc B a = enc B b) : a = b := by rw [← val_enc hB a, h, val_enc hB]
end
theorem t_int64s : elT Tryz.prog 55 = some 2 := by kernel_rfl
theorem t_nat : elT Tryz.prog 68 = some 114 := by kernel_rfl
theorem t_strings : elT Tryz.prog 22 = some 9 := by kernel_rfl
theorem t_sRats : elT Tryz.prog 34 = some 57 := by kernel_rfl
theorem t_iRats : elT Tryz.prog 43 = some 70 := by kernel_rfl
theorem o_int64 : okT Tryz.prog 2 = true := by kernel_rfl
theorem o_uint32 : okT Tryz.prog 114 = true := by kernel_rfl
theorem o_uint64 : okT Tryz.prog 97 = true := by kernel_rfl
theorem o_int : okT Tryz.prog 3 = true := by kernel_rfl
theorem o_bool : okT Tryz.prog 4 = true := by kernel_rfl
theorem o_uint8 : okT Tryz.prog 5 = true := by kernel_rfl
theorem o_string : okT Tryz.prog 9 = true := by kernel_rfl
theorem o_int64s : okT Tryz.prog 55 = true := by kernel_rfl
theorem o_nat : okT Tryz.prog 68 = true := by kernel_rfl
theorem o_strings : okT Tryz.prog 22 = true := by kernel_rfl
theorem o_sRat : okT Tryz.prog 57 = true := by kernel_rfl
theorem o_iRat : okT Tryz.prog 70 = true := by kernel_rfl
theorem g_int64 : aggT Tryz.prog 2 = false := by kernel_rfl
theorem g_uint32 : aggT Tryz.prog 114 = false := by kernel_rfl
theorem g_string : aggT Tryz.prog 9 = false := by kernel_rfl
theorem g_bool : aggT Tryz.prog 4 = false := by kernel_rfl
theorem g_int64s : aggT Tryz.prog 55 = false := by kernel_rfl
theorem g_nat : aggT Tryz.prog 68 = false := by kernel_rfl
theorem g_sRat : aggT Tryz.prog 57 = true := by kernel_rfl
theorem g_iRat : aggT Tryz.prog 70 = true := by kernel_rfl
theorem i_int64 : (Tryz.prog.info? 2).isSome = true := by kernel_rfl
theorem i_uint32 : (Tryz.prog.info? 114).isSome = true := by kernel_rfl
theorem i_string : (Tryz.prog.info? 9).isSome = true := by kernel_rfl
theorem i_sRat : (Tryz.prog.info? 57).isSome = true := by kernel_rfl
theorem i_iRat : (Tryz.prog.info? 70).isSome = true := by kernel_rfl
theorem s_int64 : szT Tryz.prog 2 = 1 := by kernel_rfl
theorem s_uint32 : szT Tryz.prog 114 = 1 := by kernel_rfl
theorem s_string : szT Tryz.prog 9 = 1 := by kernel_rfl
theorem s_bool : szT Tryz.prog 4 = 1 := by kernel_rfl
theorem s_int64s : szT Tryz.prog 55 = 1 := by kernel_rfl
theorem s_nat : szT Tryz.prog 68 = 1 := by kernel_rfl
theorem s_sRat : szT Tryz.prog 57 = 3 := by kernel_rfl
theorem s_iRat : szT Tryz.prog 70 = 3 := by kernel_rfl
theorem b_int64 : byT Tryz.prog 2 = 8 := by kernel_rfl
theorem b_uint32 : byT Tryz.prog 114 = 4 := by kernel_rfl
theorem b_string : byT Tryz.prog 9 = 16 := by kernel_rfl
theorem b_sRat : byT Tryz.prog 57 = 56 := by kernel_rfl
theorem b_iRat : byT Tryz.prog 70 = 56 := by kernel_rfl
theorem z_int64 : zeroA Tryz.prog 2 = some (.int .i64 0) := by kernel_rfl
theorem z_uint32 : zeroA Tryz.prog 114 = some (.int .u32 0) := by kernel_rfl
theorem z_string : zeroA Tryz.prog 9 = some (.str []) := by kernel_rfl
theorem z_sRat : zeroA Tryz.prog 57 = some (.agg [.bool false, .nil, .nil]) := by kernel_rfl
theorem z_iRat : zeroA Tryz.prog 70 = some (.agg [.bool false, .nil, .nil]) := by kernel_rfl
theorem zk_int64 : zokT Tryz.prog 2 = true := by kernel_rfl
theorem zk_uint32 : zokT Tryz.prog 114 = true := by kernel_rfl
theorem zk_string : zokT Tryz.prog 9 = true := by kernel_rfl
theorem zk_sRat : zokT Tryz.prog 57 = true := by kernel_rfl
theorem zk_iRat : zokT Tryz.prog 70 = true := by kernel_rfl
theorem st_string : strT Tryz.prog 9 = true := by kernel_rfl
theorem bo_bool : boolT Tryz.prog 4 = true := by kernel_rfl
theorem f_sRat0 : fieldOff Tryz.prog 57 0 = some (0, 4) := by kernel_rfl
theorem f_sRat1 : fieldOff Tryz.prog 57 1 = some (1, 55) := by kernel_rfl
theorem f_sRat2 : fieldOff Tryz.prog 57 2 = some (2, 55) := by kernel_rfl
theorem f_iRat0 : fieldOff Tryz.prog 70 0 = some (0, 4) := by kernel_rfl
theorem f_iRat1 : fieldOff Tryz.prog 70 1 = some (1, 68) := by kernel_rfl
theorem f_iRat2 : fieldOff Tryz.prog 70 2 = some (2, 68) := by kernel_rfl
theorem fs_sRat : infosT Tryz.prog 57 = true := by kernel_rfl
theorem fs_iRat : infosT Tryz.prog 70 = true := by kernel_rfl
attribute [go_sem] t_int64s t_nat t_strings t_sRats t_iRats o_int64 o_uint32 o_uint64 o_int o_bool o_uint8 o_string o_int64s o_nat o_strings o_sRat o_iRat g_int64 g_uint32 g_string g_bool g_int64s g_nat g_sRat g_iRat i_int64 i_uint32 i_string i_sRat i_iRat s_int64 s_uint32 s_string s_bool s_int64s s_nat s_sRat s_iRat b_int64 b_uint32 b_string b_sRat b_iRat z_int64 z_uint32 z_string z_sRat z_iRat zk_int64 zk_uint32 zk_string zk_sRat zk_iRat st_string bo_bool f_sRat0 f_sRat1 f_sRat2 f_iRat0 f_iRat1 f_iRat2 fs_sRat fs_iRat
theorem el_int64 {n : Int} : AV.el Tryz.prog 2 (.int .i64 n) = true := by simp [AV.el, s_int64, AV.cells, AV.one]
theorem el_uint32 {n : Int} : AV.el Tryz.prog 114 (.int .u32 n) = true := by simp [AV.el, s_uint32, AV.cells, AV.one]
theorem el_string {s : List UInt8} : AV.el Tryz.prog 9 (.str s) = true := by simp [AV.el, s_string, AV.cells, AV.one]
theorem un_int64 : Tryz.prog.underlying 2 = some (.int .i64) := by kernel_rfl
theorem un_int : Tryz.prog.underlying 3 = some (.int .i64) := by kernel_rfl
theorem un_uint32 : Tryz.prog.underlying 114 = some (.int .u32) := by kernel_rfl
theorem un_uint64 : Tryz.prog.underlying 97 = some (.int .u64) := by kernel_rfl
theorem un_uint8 : Tryz.prog.underlying 5 = some (.int .u8) := by kernel_rfl
theorem un_string : Tryz.prog.underlying 9 = some .string := by kernel_rfl
attribute [go_sem] el_int64 el_uint32 el_string un_int64 un_int un_uint32 un_uint64 un_uint8 un_string
theorem w_int64 : u32T Tryz.prog 2 = false := by kernel_rfl
theorem w_uint32 : u32T Tryz.prog 114 = true := by kernel_rfl
theorem w_string : u32T Tryz.prog 9 = false := by kernel_rfl
theorem w_sRat : u32T Tryz.prog 57 = false := by kernel_rfl
theorem w_iRat : u32T Tryz.prog 70 = false := by kernel_rfl
attribute [go_sem] w_int64 w_uint32 w_string w_sRat w_iRat
def natA (k : IntKind) (xs : List Nat) : List AV := xs.map fun n : Nat => .int k (n : Int)
theorem natA_length (k : IntKind) (xs : List Nat) : (natA k xs).length = xs.length := by simp [natA]
@[simp] theorem natA_pure (k : IntKind) (xs : List Nat) : AV.pureL (natA k xs) = true := by induction xs <;> simp_all [natA, AV.pureL, AV.pure]
theorem natA_take (k : IntKind) (xs : List Nat) (n : Nat) : (natA k xs).take n = natA k (xs.take n) := by simp [natA, List.map_take]
theorem natA_drop (k : IntKind) (xs : List Nat) (n : Nat) : (natA k xs).drop n = natA k (xs.drop n) := by simp [natA, List.map_drop]
theorem natA_append (k : IntKind) (xs ys : List Nat) : natA k xs ++ natA k ys = natA k (xs ++ ys) := by simp [natA]
theorem natA_get {k : IntKind} {xs : List Nat} {i n : Nat} (h : xs[i]? = some n) : (natA k xs)[i]? = some (.int k n) := by simp [natA, h]
attribute [go_sem] natA_length
def B9 : Nat := 1000000000
theorem B9_gt : 1 < B9 := by decide
def natS (n : Nat) : AV := .sl 2 (natA .i64 (enc B9 n)) [] false
theorem s_Trim (hm : Tryz.prog.follows .mixedOrders = true) (xs : List Nat) (hlen : xs.length < 9223372036854775808) : CallOk Tryz.prog 63 [.sl 2 (natA .i64 xs) [] false] (.sl 2 (natA .i64 (trimZ xs)) [] false) [] := by
  refine callOk_of_wpc (W := fun _ => false) false hm Tryz.func63 rfl (by kernel_rfl) (Nat.le_of_ble_eq_true rfl) (go_start ?_)
  generalize hQ : Post Tryz.prog Tryz.f63 _ _ _ _ _ = Q
  simp only [stIn, matL, matA, st00, List.getD]
  simp only [go_sem, ↓k_cond, ↓k_block]
  refine k_loop (fun (ys : List Nat) st => st.fr 0 = .sl 2 (natA .i64 ys) [] false ∧ ys.length < 9223372036854775808 ∧ trimZ ys = trimZ xs) (fun ys => ys.length) xs ⟨rfl, hlen, rfl⟩ ?_
  rintro ys ⟨fr, h, nx⟩ ⟨h0, h1, h2⟩ J hJ
  simp only at h0
  rcases List.eq_nil_or_concat ys with rfl | ⟨zs, z, rfl⟩
  · simp (disch := omega) only [go_sem, Nat.reduceEqDiff, Nat.reduceBEq, ↓reduceIte, reduceCtorEq, h0]
    rw [← hQ]
    exact post_one (.inl rfl) rfl (by simp [upd_app, ← h2]; rfl) (by simp [AV.pure, natA_pure, AV.pureL])
  · rw [List.concat_eq_append] at *
    simp only [List.length_append, List.length_cons, List.length_nil] at h1
    have hg : (natA .i64 (zs ++ [z]))[((zs.length : Int) + 1 - 1).toNat]? = some (.int .i64 z) := natA_get (by simp)
    have hl : (zs ++ [z]).length = zs.length + 1 := by simp
    by_cases hz : z = 0
    · simp (disch := omega) only [go_sem, Nat.reduceEqDiff, Nat.reduceBEq, ↓reduceIte, reduceCtorEq, h0, hg, hl, Int.natCast_succ]
      refine hJ zs _ ⟨?_, by omega, by rw [← h2, hz, trimZ_zero]⟩ (by simp)
      simp [upd_app, natA_take]
    · simp (disch := omega) only [go_sem, Nat.reduceEqDiff, Nat.reduceBEq, ↓reduceIte, reduceCtorEq, h0, hg, hl, Int.natCast_succ]
      rw [← hQ]
      refine post_one (.inl rfl) rfl (by simp [upd_app, ← h2, trimZ_pos _ hz]) (by simp [AV.pure, natA_pure, AV.pureL])
section
theorem enc_len_lt {B : Nat} (hB : 1 < B) {a b : Nat} (h : (enc B a).length < (enc B b).length) : a < b := by
  rcases Nat.lt_or_ge a b with h' | h'
  · exact h'
  · have h1 := enc_len_pow hB (n := a)
    have := enc_len_le hB (n := b) (k := (enc B a).length) (by omega)
    omega
theorem val_split (B : Nat) (xs : List Nat) (i : Nat) : val B xs = val B (xs.take i) + B ^ (xs.take i).length * val B (xs.drop i) := by
 rw [← val_append, List.take_append_drop]
theorem drop_cons {α : Type} {xs : List α} {i : Nat} {x : α} (h : xs[i]? = some x) : xs.drop i = x :: xs.drop (i + 1) := by
 obtain ⟨hlt, rfl⟩ := List.getElem?_eq_some_iff.1 h
 exact List.drop_eq_getElem_cons hlt
theorem val_less {B : Nat} {xs ys : List Nat} {i x y : Nat} (hl : xs.length = ys.length) (hx : ∀ d ∈ xs, d < B) (hi : xs[i]? = some x) (hj : ys[i]? = some y) (hd : xs.drop (i + 1) = ys.drop (i + 1)) (h : x < y) : val B xs < val B ys := by
 have hlt := (List.getElem?_eq_some_iff.1 hi).1
 rw [val_split B xs i, val_split B ys i, drop_cons hi, drop_cons hj, hd]
 have hlx : (xs.take i).length = i := by simp; omega
 have hly : (ys.take i).length = i := by simp; omega
 rw [hlx, hly, val, val]
 have h1 : val B (xs.take i) < B ^ i := by
  have := val_lt (B := B) (xs := xs.take i) (fun d hd => hx d (List.mem_of_mem_take hd)); rwa [hlx] at this
 have h2 : B ^ i * (x + B * val B (ys.drop (i + 1)) + 1) ≤ B ^ i * (y + B * val B (ys.drop (i + 1))) := Nat.mul_le_mul_left _ (by omega)
 rw [Nat.mul_add, Nat.mul_one] at h2
 omega
def cmpI (a b : Nat) : Int := if a < b then -1 else if b < a then 1 else 0
theorem cmpI_lt {a b : Nat} (h : a < b) : cmpI a b = -1 := by simp [cmpI, h]
theorem cmpI_gt {a b : Nat} (h : b < a) : cmpI a b = 1 := by simp [cmpI, h]; omega
theorem cmpI_eq (a : Nat) : cmpI a a = 0 := by simp [cmpI]
theorem len_ne_cmp {B : Nat} (hB : 1 < B) {a b : Nat} (h : (enc B a).length ≠ (enc B b).length) : cmpI a b = if (enc B a).length < (enc B b).length then -1 else 1 := by
  split
  · rename_i h'; exact cmpI_lt (enc_len_lt hB h')
  · rename_i h'; exact cmpI_gt (enc_len_lt hB (by omega))
theorem dig_cmp {B : Nat} (hB : 1 < B) {a b i x y : Nat} (hl : (enc B a).length = (enc B b).length) (hi : (enc B a)[i]? = some x) (hj : (enc B b)[i]? = some y) (hd : (enc B a).drop (i + 1) = (enc B b).drop (i + 1)) (h : x ≠ y) : cmpI a b = if x < y then -1 else 1 := by
  split
  · rename_i h'
    have := val_less hl (enc_lt hB a) hi hj hd h'
    rw [val_enc hB, val_enc hB] at this; exact cmpI_lt this
  · rename_i h'
    have := val_less hl.symm (enc_lt hB b) hj hi hd.symm (by omega)
    rw [val_enc hB, val_enc hB] at this; exact cmpI_gt this
theorem all_cmp {B : Nat} (hB : 1 < B) {a b : Nat} (hd : enc B a = enc B b) : cmpI a b = 0 := by rw [val_inj hB hd, cmpI_eq]
end
theorem s_Digit (hm : Tryz.prog.follows .mixedOrders = true) (xs : List Nat) (i : Nat) (hlen : xs.length < 9223372036854775808) : CallOk Tryz.prog 79 [.sl 2 (natA .i64 xs) [] false, .int .i64 i] (.int .i64 (xs.getD i 0 : Nat)) [] := by
  refine callOk_of_wpc (W := fun _ => false) false hm Tryz.func79 rfl (by kernel_rfl) (Nat.le_of_ble_eq_true rfl) (go_start ?_)
  generalize hQ : Post Tryz.prog Tryz.f79 _ _ _ _ _ = Q
  simp only [stIn, matL, matA, st00]
  by_cases hi : i < xs.length
  · have hg : (natA .i64 xs)[(i : Int).toNat]? = some (.int .i64 (xs.getD i 0 : Nat)) := natA_get (by simp [List.getD, hi])
    simp (disch := omega) only [go_sem, Nat.reduceEqDiff, Nat.reduceBEq, ↓reduceIte, reduceCtorEq, List.getD_cons_zero, List.getD_cons_succ, hg]
    rw [← hQ]
    exact post_one (.inl rfl) rfl (by simp [upd_app]) rfl
  · have hg : xs.getD i 0 = 0 := by rw [List.getD_eq_getElem?_getD, List.getElem?_eq_none (by omega)]; rfl
    simp (disch := omega) only [go_sem, Nat.reduceEqDiff, Nat.reduceBEq, ↓reduceIte, reduceCtorEq, List.getD_cons_zero, List.getD_cons_succ]
    rw [← hQ, hg]
    exact post_one (.inl rfl) rfl (by simp [upd_app]) rfl
theorem s_Cmp (hm : Tryz.prog.follows .mixedOrders = true) (a b : Nat) (ha : (enc B9 a).length < 9223372036854775808) (hb : (enc B9 b).length < 9223372036854775808) : CallOk Tryz.prog 40 [natS a, natS b] (.int .i64 (cmpI a b)) [] := by
  refine callOk_of_wpc (W := fun _ => false) false hm Tryz.func40 rfl (by kernel_rfl) (Nat.le_of_ble_eq_true rfl) (go_start ?_)
  generalize hQ : Post Tryz.prog Tryz.f40 _ _ _ _ _ = Q
  simp only [stIn, matL, matA, st00, natS]
  by_cases hl : (enc B9 a).length = (enc B9 b).length
  · simp (disch := omega) only [go_sem, Nat.reduceEqDiff, Nat.reduceBEq, ↓reduceIte, reduceCtorEq, List.getD_cons_zero, List.getD_cons_succ]
    refine k_loop (fun (i : Nat) st => st.fr 0 = natS a ∧ st.fr 1 = natS b ∧ st.fr 5 = .int .i64 ((i : Int) - 1) ∧ i ≤ (enc B9 a).length ∧ (enc B9 a).drop i = (enc B9 b).drop i) (fun i => i) (enc B9 a).length
      ⟨by simp [upd_app, natS], by simp [upd_app, natS], by simp [upd_app], Nat.le_refl _, by simp [hl]⟩ ?_
    rintro i ⟨fr, h, nx⟩ ⟨h0, h1, h5, hi, hd⟩ J hJ
    simp only [natS] at h0 h1 h5
    rcases Nat.eq_zero_or_pos i with rfl | hp
    · simp (disch := omega) only [go_sem, Nat.reduceEqDiff, Nat.reduceBEq, ↓reduceIte, reduceCtorEq, h0, h1, h5]
      rw [← hQ]
      exact post_one (.inl rfl) rfl (by simp [upd_app]; exact (all_cmp B9_gt (by simpa using hd)).symm) rfl
    · obtain ⟨j, rfl⟩ : ∃ j, i = j + 1 := ⟨i - 1, by omega⟩
      obtain ⟨x, hx⟩ : ∃ x, (enc B9 a)[j]? = some x := ⟨_, List.getElem?_eq_getElem (by omega)⟩
      obtain ⟨y, hy⟩ : ∃ y, (enc B9 b)[j]? = some y := ⟨_, List.getElem?_eq_getElem (by omega)⟩
      have e1 : ((j + 1 : Nat) : Int) - 1 = j := by omega
      rw [e1] at h5
      have gx : (natA .i64 (enc B9 a))[(j : Int).toNat]? = some (.int .i64 x) := natA_get (by simpa using hx)
      have gy : (natA .i64 (enc B9 b))[(j : Int).toNat]? = some (.int .i64 y) := natA_get (by simpa using hy)
      by_cases hxy : x = y
      · simp (disch := omega) only [go_sem, Nat.reduceEqDiff, Nat.reduceBEq, ↓reduceIte, reduceCtorEq, h0, h1, h5, gx, gy]
        refine hJ j _ ⟨by simp [upd_app, h0, natS], by simp [upd_app, h1, natS], by simp [upd_app], by omega, ?_⟩ (by omega)
        rw [drop_cons hx, drop_cons hy, hd, hxy]
      · have hc := dig_cmp B9_gt hl hx hy hd hxy
        by_cases hlt : x < y
        · simp (disch := omega) only [go_sem, Nat.reduceEqDiff, Nat.reduceBEq, ↓reduceIte, reduceCtorEq, h0, h1, h5, gx, gy]
          rw [← hQ]
          exact post_one (.inl rfl) rfl (by simp [upd_app, hc, hlt]) rfl
        · simp (disch := omega) only [go_sem, Nat.reduceEqDiff, Nat.reduceBEq, ↓reduceIte, reduceCtorEq, h0, h1, h5, gx, gy]
          rw [← hQ]
          exact post_one (.inl rfl) rfl (by simp [upd_app, hc, hlt]) rfl
  · have hc := len_ne_cmp B9_gt hl
    by_cases hlt : (enc B9 a).length < (enc B9 b).length
    · simp (disch := omega) only [go_sem, Nat.reduceEqDiff, Nat.reduceBEq, ↓reduceIte, reduceCtorEq, List.getD_cons_zero, List.getD_cons_succ]
      rw [← hQ]
      exact post_one (.inl rfl) rfl (by simp [upd_app, hc, hlt]) rfl
    · simp (disch := omega) only [go_sem, Nat.reduceEqDiff, Nat.reduceBEq, ↓reduceIte, reduceCtorEq, List.getD_cons_zero, List.getD_cons_succ]
      rw [← hQ]
      exact post_one (.inl rfl) rfl (by simp [upd_app, hc, hlt]) rfl
theorem c_Trim : callable Tryz.prog 63 = true := by kernel_rfl
theorem c_Digit : callable Tryz.prog 79 = true := by kernel_rfl
theorem c_Cmp : callable Tryz.prog 40 = true := by kernel_rfl
theorem s_TrimIn (hm : Tryz.prog.follows .mixedOrders = true) {fr : Nat → AV} {h : Nat → Blk} {nx id n : Nat} {xs : List Nat} (hlv : (h id).lv = true) (hn : (h id).xs.length = n) (ht : (h id).t = 2) (hlen : n < 9223372036854775808)
    (hl : xs.length ≤ n) (hxs : (h id).xs.take xs.length = natA .i64 xs) : InOk Tryz.prog ⟨fr, h, nx⟩ 63 [.ref id n 0 xs.length] (.ref id n 0 (trimZ xs).length) ⟨fr, h, nx⟩ := by
  refine inOk_of_wpc (W := fun _ => false) hm Tryz.func63 rfl (by kernel_rfl) (Nat.le_of_ble_eq_true rfl) (go_start ?_)
  generalize hQ : PostIn Tryz.prog Tryz.f63 _ _ _ = Q
  simp (disch := omega) only [go_sem, Nat.reduceEqDiff, Nat.reduceBEq, ↓reduceIte, reduceCtorEq, List.getD_cons_zero, List.getD_cons_succ]
  refine k_loop (fun (ys : List Nat) st => st.fr 0 = .ref id n 0 ys.length ∧ st.h = h ∧ st.nx = nx ∧ ys.length ≤ n ∧ (h id).xs.take ys.length = natA .i64 ys ∧ trimZ ys = trimZ xs) (fun ys => ys.length) xs ⟨rfl, rfl, rfl, hl, hxs, rfl⟩ ?_
  rintro ys ⟨fr, h1, nx1⟩ ⟨h0, e1, e2, h3, h4, h5⟩ J hJ
  simp only at h0 e1 e2
  subst e1 e2
  rcases List.eq_nil_or_concat ys with rfl | ⟨zs, z, rfl⟩
  · simp (disch := omega) only [go_sem, Nat.reduceEqDiff, Nat.reduceBEq, ↓reduceIte, reduceCtorEq, h0, hlv, hn]
    rw [← hQ]
    exact postIn_one (.inl rfl) rfl (by simp [upd_app, ← h5]; rfl) rfl rfl
  · rw [List.concat_eq_append] at *
    have hl : (zs ++ [z]).length = zs.length + 1 := by simp
    rw [hl] at h0 h3 h4
    have hg : (h1 id).xs[((zs.length : Int) + 1 - 1).toNat]? = some (.int .i64 z) := by
      have e : ((zs.length : Int) + 1 - 1).toNat = zs.length := by omega
      have := congrArg (·[zs.length]?) h4
      simp only [List.getElem?_take] at this
      rw [if_pos (by omega)] at this
      rw [e, this]; exact natA_get (by simp)
    have h4' : (h1 id).xs.take zs.length = natA .i64 zs := by
      have := congrArg (List.take zs.length) h4
      rw [List.take_take, Nat.min_eq_left (by omega), natA_take] at this
      simpa using this
    by_cases hz : z = 0
    · simp (disch := omega) only [go_sem, Nat.reduceEqDiff, Nat.reduceBEq, ↓reduceIte, reduceCtorEq, h0, hg, Int.natCast_succ, hlv, hn, ht]
      refine hJ zs _ ⟨?_, rfl, rfl, by omega, h4', by rw [← h5, hz, trimZ_zero]⟩ (by simp)
      simp [upd_app]
    · simp (disch := omega) only [go_sem, Nat.reduceEqDiff, Nat.reduceBEq, ↓reduceIte, reduceCtorEq, h0, hg, Int.natCast_succ, hlv, hn, ht]
      rw [← hQ]
      exact postIn_one (.inl rfl) rfl (by simp [upd_app, ← h5, trimZ_pos _ hz]) rfl rfl
section
theorem tdivN (a b : Nat) : (a : Int).tdiv b = ((a / b : Nat) : Int) := by rw [Int.tdiv_eq_ediv_of_nonneg (by omega)]; exact (Int.natCast_ediv a b).symm
theorem tmodN (a b : Nat) : (a : Int).tmod b = ((a % b : Nat) : Int) := by rw [Int.tmod_eq_emod_of_nonneg (by omega)]; exact (Int.natCast_emod a b).symm
theorem sdiv_step {B d r x q : Nat} (hd : 0 < d) (hr : r < d) (hx : x < B) : (r * B + x) / d < B ∧ (r * B + x) % d < d ∧ ((r * B + x) / d + B * q) * d + (r * B + x) % d = x + B * (q * d + r) := by
  refine ⟨?_, Nat.mod_lt _ hd, ?_⟩
  · rw [Nat.div_lt_iff_lt_mul hd]
    have : (r + 1) * B ≤ d * B := Nat.mul_le_mul_right _ hr
    rw [Nat.add_mul] at this
    rw [Nat.mul_comm B d]; omega
  · have h := Nat.div_add_mod (r * B + x) d
    rw [Nat.add_mul, Nat.mul_add, Nat.mul_comm ((r * B + x) / d) d]
    have e : B * q * d = B * (q * d) := Nat.mul_assoc ..
    rw [e, Nat.mul_comm B r]; omega
theorem sdiv_end {a d q r : Nat} (hd : 0 < d) (hr : r < d) (h : q * d + r = a) : q = a / d ∧ r = a % d := by
  subst h
  constructor
  · rw [Nat.mul_comm, Nat.mul_add_div hd, Nat.div_eq_of_lt hr, Nat.add_zero]
  · rw [Nat.mul_comm, Nat.mul_add_mod, Nat.mod_eq_of_lt hr]
theorem replicate_set {i : Nat} {v : Nat} (qs : List Nat) : (List.replicate (i + 1) 0 ++ qs).set i v = List.replicate i 0 ++ (v :: qs) := by
 rw [List.replicate_succ', List.append_assoc, List.set_append_right _ _ (by simp)]
 simp
theorem enc_of_len {B : Nat} (hB : 1 < B) {xs : List Nat} (h : ∀ d ∈ xs, d < B) (hl : xs = [] ∨ B ^ (xs.length - 1) ≤ val B xs) : enc B (val B xs) = xs := by
  refine enc_val hB h fun x hx hz => ?_
  rcases List.eq_nil_or_concat xs with rfl | ⟨ys, y, rfl⟩
  · simp at hx
  · rw [List.concat_eq_append] at *
    simp at hx
    subst hx; subst hz
    rcases hl with hl | hl
    · simp at hl
    · rw [val_append] at hl
      simp [val] at hl
      have := val_lt (B := B) (xs := ys) (fun d hd => h d (by simp [hd]))
      omega
theorem enc_ge_pow {B : Nat} (hB : 1 < B) {n : Nat} (hn : n ≠ 0) : B ^ ((enc B n).length - 1) ≤ n := by
  rcases Nat.lt_or_ge n (B ^ ((enc B n).length - 1)) with h | h
  · have := enc_len_le hB h
    have h2 : (enc B n).length ≠ 0 := fun h0 => hn ((enc_nil hB).1 (List.length_eq_zero_iff.1 h0))
    omega
  · exact h
theorem smul_step {B d c x : Nat} (hd : 0 < d) (hc : c < d) (hx : x < B) : (x * d + c) / B < d ∧ (x * d + c) % B < B ∧ (x * d + c) % B + B * ((x * d + c) / B) = x * d + c := by
 have hB : 0 < B := by omega
 refine ⟨?_, Nat.mod_lt _ hB, Nat.mod_add_div _ _⟩
 rw [Nat.div_lt_iff_lt_mul hB]
 have : (x + 1) * d ≤ B * d := Nat.mul_le_mul_right _ hx
 rw [Nat.add_mul, Nat.mul_comm B d] at this; omega
end
theorem natA_set {k : IntKind} {xs : List Nat} {i n : Nat} : (natA k xs).set i (.int k n) = natA k (xs.set i n) := by simp [natA, List.map_set]
theorem natA_rep {k : IntKind} {n : Nat} : List.replicate n (AV.int k 0) = natA k (List.replicate n 0) := by simp [natA]
theorem trimZ_len (xs : List Nat) : (trimZ xs).length ≤ xs.length := by
  simp only [trimZ, List.length_reverse]
  have := (List.dropWhile_suffix (l := xs.reverse) (· == 0)).length_le
  simpa using this
theorem trimZ_pre (xs : List Nat) : xs.take (trimZ xs).length = trimZ xs := by
  have h : trimZ xs <+: xs := by
    have := (List.dropWhile_suffix (l := xs.reverse) (· == 0))
    have := List.reverse_prefix.2 this
    simpa [trimZ] using this
  exact (List.prefix_iff_eq_take.1 h).symm
theorem s_ShortDiv (hm : Tryz.prog.follows .mixedOrders = true) (a d : Nat) (ha : (enc B9 a).length ≤ 1099511627776) (hd : 0 < d) (hd2 : d ≤ 1000000000) :
    CallOk Tryz.prog 87 [natS a, .int .i64 d] (.tup [natS (a / d), .int .i64 ((a % d : Nat) : Int)]) [] := by
  refine callOk_of_wpc (W := fun _ => false) false hm Tryz.func87 rfl (by kernel_rfl) (Nat.le_of_ble_eq_true rfl) (go_start ?_)
  generalize hQ : Post Tryz.prog Tryz.f87 _ _ _ _ _ = Q
  obtain ⟨n, hn⟩ : ∃ n, (enc B9 a).length = n := ⟨_, rfl⟩
  simp only [stIn, matL, matA, st00, natS]
  simp (disch := omega) only [go_sem, Nat.reduceEqDiff, Nat.reduceBEq, ↓reduceIte, reduceCtorEq, List.getD_cons_zero, List.getD_cons_succ, hn, reach, Int.toNat_natCast]
  refine k_loop (fun (p : Nat × Nat × List Nat) st => st.fr 0 = natS a ∧ st.fr 1 = .int .i64 d ∧ st.fr 6 = .ref 0 n 0 n ∧ st.fr 7 = .int .i64 p.2.1 ∧ st.fr 8 = .int .i64 ((p.1 : Int) - 1) ∧
      st.h 0 = ⟨2, natA .i64 (List.replicate p.1 0 ++ p.2.2), true, true, true⟩ ∧ p.1 + p.2.2.length = n ∧ p.2.1 < d ∧ (∀ q ∈ p.2.2, q < B9) ∧ val B9 p.2.2 * d + p.2.1 = val B9 ((enc B9 a).drop p.1)) (fun p => p.1) (n, 0, [])
    ⟨by simp [upd_app, natS], by simp [upd_app], by simp [upd_app], by simp [upd_app], by simp [upd_app], by simp [upd_app, natA_rep], by simp, hd, by simp, by simp [← hn, val]⟩ ?_
  rintro ⟨i, r, qs⟩ ⟨fr, h, nx⟩ ⟨h0, h1, h6, h7, h8, hb, hlen, hr, hq, hv⟩ J hJ
  simp only [natS] at h0 h1 h6 h7 h8 hb hlen hr hq hv
  rcases Nat.eq_zero_or_pos i with rfl | hp
  · simp (disch := omega) only [go_sem, Nat.reduceEqDiff, Nat.reduceBEq, ↓reduceIte, reduceCtorEq, h0, h1, h6, h7, h8]
    simp only [List.replicate_zero, List.nil_append, Nat.zero_add, List.drop_zero] at hb hlen hv
    rw [val_enc B9_gt] at hv
    obtain ⟨e1, e2⟩ := sdiv_end hd hr hv
    have htr := trimZ_enc B9_gt hq
    have hlt := trimZ_len qs
    have htt := trimZ_pre qs
    refine x_callI (s_TrimIn hm (xs := qs) (id := 0) (n := n) (by rw [hb]) (by rw [hb]; simpa [natA_length] using hlen) (by rw [hb]) (by omega) (by omega) (by rw [hb]; simp [natA_take])) c_Trim (by simp [evA, upd_app, h6, hlen]) (.inr ⟨rfl, rfl⟩) ?_
    simp (disch := omega) only [go_sem, Nat.reduceEqDiff, Nat.reduceBEq, ↓reduceIte, reduceCtorEq, h0, h1, h6, h7, h8]
    rw [← hQ, ← e2]
    refine post_tup (v := .ref 0 n 0 (trimZ qs).length) (w := .int .i64 r) (.inl rfl) rfl (by simp [upd_app]) (by simp [upd_app]) (snap_frozen (by simp [hb]) (by simp [hb, natA_length, hlen]) (by simp [hb]) (by omega) (by simp only [hb, List.drop_zero, natA_take, htt]; rw [htr, e1]) (natA_pure _ _)) (snapA_pure rfl) (fun _ _ => Nat.zero_le _) (.inl rfl)
  · obtain ⟨j, rfl⟩ : ∃ j, i = j + 1 := ⟨i - 1, by omega⟩
    obtain ⟨x, hx⟩ : ∃ x, (enc B9 a)[j]? = some x := ⟨_, List.getElem?_eq_getElem (by omega)⟩
    have hxB : x < B9 := enc_lt B9_gt a x (List.mem_of_getElem? hx)
    have e1 : ((j + 1 : Nat) : Int) - 1 = j := by omega
    rw [e1] at h8
    have gx : (natA .i64 (enc B9 a))[(j : Int).toNat]? = some (.int .i64 x) := natA_get (by simpa using hx)
    have hlb : (natA .i64 (List.replicate (j + 1) 0 ++ qs)).length = n := by simp [natA_length]; omega
    have gz : (natA .i64 (List.replicate (j + 1) 0 ++ qs))[(j : Int).toNat]? = some (.int .i64 0) := natA_get (n := 0) (by simp [List.getElem?_append_left])
    obtain ⟨q', hq'⟩ : ∃ q', (r * B9 + x) / d = q' := ⟨_, rfl⟩
    obtain ⟨r', hr'⟩ : ∃ r', (r * B9 + x) % d = r' := ⟨_, rfl⟩
    obtain ⟨s1, s2, s3⟩ := sdiv_step (q := val B9 qs) hd hr hxB
    have hB : B9 = 1000000000 := rfl
    rw [hq'] at s1 s3
    rw [hr'] at s2 s3
    have hrB : r * 1000000000 ≤ 1000000000 * 1000000000 := Nat.mul_le_mul_right _ (by omega)
    have w1 : (r : Int) * 1000000000 = ((r * 1000000000 : Nat) : Int) := by omega
    have w2 : ((r * 1000000000 : Nat) : Int) + (x : Int) = ((r * B9 + x : Nat) : Int) := by rw [hB]; omega
    simp (disch := omega) only [go_sem, Nat.reduceEqDiff, Nat.reduceBEq, ↓reduceIte, reduceCtorEq, h0, h1, h6, h7, h8, gx, hn, w1, w2, hb, hlb, tdivN, tmodN, gz, natA_set, hq', hr']
    refine hJ (j, r', q' :: qs) _ ⟨by simp [upd_app, h0, natS], by simp [upd_app, h1], by simp [upd_app, h6], by simp [upd_app], by simp [upd_app], ?_, by simp; omega, s2, ?_, ?_⟩ (by simp)
    · simp only [upd_app, if_true, Int.toNat_natCast, replicate_set]
    · simp only [List.forall_mem_cons]; exact ⟨s1, hq⟩
    · simp only [val, drop_cons hx]; rw [s3, hv]
theorem natA_snoc {k : IntKind} {xs : List Nat} {n : Nat} : natA k xs ++ [AV.int k n] = natA k (xs ++ [n]) := by simp [natA]
attribute [go_sem] natA_snoc
theorem s_Nat (hm : Tryz.prog.follows .mixedOrders = true) (n : Nat) (hn : n < 9223372036854775808) : CallOk Tryz.prog 64 [.int .i64 n] (natS n) [] := by
  refine callOk_of_wpc (W := fun _ => false) false hm Tryz.func64 rfl (by kernel_rfl) (Nat.le_of_ble_eq_true rfl) (go_start ?_)
  generalize hQ : Post Tryz.prog Tryz.f64 _ _ _ _ _ = Q
  simp only [stIn, matL, matA, st00]
  simp (disch := omega) only [go_sem, Nat.reduceEqDiff, Nat.reduceBEq, ↓reduceIte, reduceCtorEq, List.getD_cons_zero, List.getD_cons_succ]
  have hlen : (enc B9 n).length ≤ 3 := enc_len_le B9_gt (by simp only [B9]; omega)
  refine k_loop (fun (p : Nat × List Nat) st => st.fr 0 = .int .i64 p.1 ∧ st.fr 3 = .ref 0 p.2.length 0 p.2.length ∧ (∃ ex, st.h 0 = ⟨2, natA .i64 p.2, ex, true, true⟩) ∧ p.2 ++ enc B9 p.1 = enc B9 n ∧ p.1 ≤ n) (fun p => p.1) (n, [])
    ⟨by simp [upd_app], by simp [upd_app], ⟨true, by simp [upd_app, natA]⟩, by simp, Nat.le_refl _⟩ ?_
  rintro ⟨m, ds⟩ ⟨fr, h, nx⟩ ⟨h0, h3, ⟨ex, hb⟩, he, hmn⟩ J hJ
  simp only at h0 h3 hb he hmn
  have hdl : ds.length ≤ 3 := by have := congrArg List.length he; rw [List.length_append] at this; omega
  rcases Nat.eq_zero_or_pos m with rfl | hp
  · simp (disch := omega) only [go_sem, Nat.reduceEqDiff, Nat.reduceBEq, ↓reduceIte, reduceCtorEq, h0, h3]
    rw [enc_zero, List.append_nil] at he
    rw [← hQ]
    exact post_frozen (off := 0) (len := ds.length) (n := ds.length) (id := 0) (.inl rfl) rfl (by simp [upd_app]) (by simp [hb]) (by simp [hb, natA_length]) (by simp [hb]) (by omega) (Nat.zero_le _) (by simp only [hb, List.drop_zero, natA_take, List.take_length, he]) (natA_pure _ _)
  · have w1 : (m : Int).tmod 1000000000 = ((m % 1000000000 : Nat) : Int) := tmodN m 1000000000
    have w2 : (m : Int).tdiv 1000000000 = ((m / 1000000000 : Nat) : Int) := tdivN m 1000000000
    simp (disch := omega) only [go_sem, Nat.reduceEqDiff, Nat.reduceBEq, ↓reduceIte, reduceCtorEq, h0, h3, w1, w2, hb, reach]
    rw [enc_pos B9_gt (by omega), show m % B9 = m % 1000000000 from rfl, show m / B9 = m / 1000000000 from rfl] at he
    refine hJ (m / 1000000000, ds ++ [m % 1000000000]) _ ⟨by simp [upd_app], by simp [upd_app], ⟨false, by simp [upd_app]⟩, by simpa using he, by simp only; omega⟩ (by simp only; omega)
theorem c_Nat : callable Tryz.prog 64 = true := by kernel_rfl
theorem c_ShortDiv : callable Tryz.prog 87 = true := by kernel_rfl
theorem c_ShortMul : callable Tryz.prog 88 = true := by kernel_rfl
theorem c_Small : callable Tryz.prog 86 = true := by kernel_rfl
def smallS (a : Nat) : AV := if a < 1000000000000000000 then .tup [.int .i64 a, .bool true] else .tup [.int .i64 0, .bool false]
theorem s_Small (hm : Tryz.prog.follows .mixedOrders = true) (a : Nat) (ha : (enc B9 a).length ≤ 1099511627776) : CallOk Tryz.prog 86 [natS a] (smallS a) [] := by
  refine callOk_of_wpc (W := fun _ => false) false hm Tryz.func86 rfl (by kernel_rfl) (Nat.le_of_ble_eq_true rfl) (go_start ?_)
  generalize hQ : Post Tryz.prog Tryz.f86 _ _ _ _ _ = Q
  simp only [stIn, matL, matA, st00, natS]
  by_cases hs : (enc B9 a).length ≤ 2
  · simp (disch := omega) only [go_sem, Nat.reduceEqDiff, Nat.reduceBEq, ↓reduceIte, reduceCtorEq, List.getD_cons_zero, List.getD_cons_succ]
    refine x_callP (s_Digit hm (enc B9 a) 0 (by omega)) c_Digit (by simp [evA, upd_app, ofVal, ofCell]) (by simp [AV.pure, AV.pureL, natA_pure]) rfl ?_
    simp (disch := omega) only [go_sem, Nat.reduceEqDiff, Nat.reduceBEq, ↓reduceIte, reduceCtorEq, List.getD_cons_zero, List.getD_cons_succ]
    refine x_callP (s_Digit hm (enc B9 a) 1 (by omega)) c_Digit (by simp [evA, upd_app, ofVal, ofCell]) (by simp [AV.pure, AV.pureL, natA_pure]) rfl ?_
    obtain ⟨x, hx⟩ : ∃ x, (enc B9 a).getD 0 0 = x := ⟨_, rfl⟩
    obtain ⟨y, hy⟩ : ∃ y, (enc B9 a).getD 1 0 = y := ⟨_, rfl⟩
    have hxy : x < B9 ∧ y < B9 ∧ x + B9 * y = a := by
      have h1 := enc_lt B9_gt a
      have h2 := val_enc B9_gt a
      cases he : enc B9 a with
      | nil => rw [he] at h2 hx hy; simp [val] at h2 hx hy; subst hx hy h2; simp [B9]
      | cons u us =>
        cases us with
        | nil => rw [he] at h1 h2 hx hy; simp [val] at h1 h2 hx hy; subst hx hy h2; simp [B9] at *; omega
        | cons v vs =>
          have : vs = [] := by rw [he] at hs; simp at hs; exact hs
          subst this
          rw [he] at h1 h2 hx hy; simp [val] at h1 h2 hx hy; subst hx hy h2; exact ⟨h1.1, h1.2, rfl⟩
    obtain ⟨g1, g2, g3⟩ := hxy
    have hB : B9 = 1000000000 := rfl
    rw [hB] at g1 g2 g3
    rw [hx, hy]
    have w2 : (x : Int) + 1000000000 * (y : Int) = (a : Int) := by omega
    simp (disch := omega) only [go_sem, Nat.reduceEqDiff, Nat.reduceBEq, ↓reduceIte, reduceCtorEq, w2]
    rw [← hQ]
    have : smallS a = .tup [.int .i64 a, .bool true] := by simp only [smallS]; rw [if_pos (by omega)]
    rw [this]
    exact post_two (.inl rfl) rfl (by simp [upd_app]) (by simp [upd_app]) rfl rfl
  · simp (disch := omega) only [go_sem, Nat.reduceEqDiff, Nat.reduceBEq, ↓reduceIte, reduceCtorEq, List.getD_cons_zero, List.getD_cons_succ]
    have hbig : ¬ a < 1000000000000000000 := fun h => hs (enc_len_le B9_gt (by simpa [B9] using h))
    have : smallS a = .tup [.int .i64 0, .bool false] := by simp only [smallS]; rw [if_neg hbig]
    rw [← hQ, this]
    exact post_two (.inl rfl) rfl (by simp [upd_app]) (by simp [upd_app]) rfl rfl
section
section
variable {B K V w top next x third v0 w0 d rest : Nat}
theorem est_low (hV : V = (top * B + next) * K + v0) (hw : w = (x * B + third) * K + w0) (hw0 : w0 < K) (hx : d * top + rest = x) (hc : rest * B + third < d * next) : w < d * V := by
 have h1 : x * B + third + 1 ≤ d * (top * B + next) := by
  rw [Nat.mul_add, ← hx, Nat.add_mul, Nat.mul_assoc]; omega
 have h2 : (x * B + third + 1) * K ≤ d * (top * B + next) * K := Nat.mul_le_mul_right _ h1
 rw [Nat.add_mul (x * B + third) 1 K, Nat.one_mul] at h2
 have h3 : d * V = d * (top * B + next) * K + d * v0 := by rw [hV, Nat.mul_add, Nat.mul_assoc]
 omega
theorem est_high (hV : V = (top * B + next) * K + v0) (hw : w = (x * B + third) * K + w0) (hv0 : v0 < K) (hx : d * top + rest = x) (hc : d * next ≤ rest * B + third) (hd : d ≤ B) (ht : 0 < top) : d * V ≤ w + V := by
 have h1 : d * (top * B + next) ≤ x * B + third := by
  rw [Nat.mul_add, ← hx, Nat.add_mul, Nat.mul_assoc]; omega
 have h2 : d * (top * B + next) * K ≤ (x * B + third) * K := Nat.mul_le_mul_right _ h1
 have h3 : d * V = d * (top * B + next) * K + d * v0 := by rw [hV, Nat.mul_add, Nat.mul_assoc]
 have h4 : d * v0 ≤ B * K := Nat.mul_le_mul hd (Nat.le_of_lt hv0)
 have h5 : B * K ≤ V := by
  have : B * K ≤ (top * B + next) * K := Nat.mul_le_mul_right _ (by have := Nat.mul_le_mul_right B ht; omega)
  omega
 omega
theorem quot_of {q : Nat} (hV : 0 < V) (h1 : q * V ≤ w) (h2 : w < q * V + V) : q = w / V := by
 have : w / V = q := by
  rw [Nat.div_eq_iff hV]; omega
 exact this.symm
theorem est_first (hV : V = (top * B + next) * K + v0) (hw : w = (x * B + third) * K + w0) (hv0 : v0 < K) (hn : next < B) (hB : 0 < B) (hlt : w < V * B) (hb : B ≤ 2 * top) : x / top ≤ B + 1 := by
 have ht : 0 < top := by omega
 have h1 : (x * B + third) * K < ((top * B + next) * B + B) * K := by
  have e : V * B = (top * B + next) * B * K + v0 * B := by rw [hV, Nat.add_mul, Nat.mul_right_comm]
  have : v0 * B ≤ K * B := Nat.mul_le_mul_right _ (Nat.le_of_lt hv0)
  rw [Nat.add_mul ((top * B + next) * B), Nat.mul_comm B K]; omega
 have h2 : x * B + third < (top * B + next) * B + B := Nat.lt_of_mul_lt_mul_right h1
 have h3 : x < top * B + next + 1 := by
  have : x * B < (top * B + next + 1) * B := by rw [Nat.add_mul (top * B + next) 1, Nat.one_mul]; omega
  exact Nat.lt_of_mul_lt_mul_right this
 rw [← Nat.lt_succ_iff, Nat.div_lt_iff_lt_mul ht]
 have : (B + 1).succ * top = top * B + 2 * top := by rw [Nat.succ_eq_add_one, Nat.add_mul, Nat.add_mul, Nat.mul_comm B top]; omega
 omega
end
end
section
theorem val_nil_drop {B k : Nat} {xs : List Nat} (h : xs.length ≤ k) : val B (xs.drop k) = 0 := by rw [List.drop_eq_nil_of_le h]; rfl
theorem val_take {B : Nat} (hB : 1 < B) {xs : List Nat} (h : ∀ d ∈ xs, d < B) (k : Nat) : val B (xs.take k) = val B xs % B ^ k := by
  have h1 := val_split B xs k
  have h2 := val_lt (B := B) (xs := xs.take k) (fun d hd => h d (List.mem_of_mem_take hd))
  rcases Nat.lt_or_ge xs.length k with hk | hk
  · rw [List.take_of_length_le (by omega), Nat.mod_eq_of_lt]
    exact Nat.lt_of_lt_of_le (val_lt h) (Nat.pow_le_pow_right (by omega) (by omega))
  · have hl : (xs.take k).length = k := by simp; omega
    rw [hl] at h1 h2
    rw [h1, Nat.add_mul_mod_self_left, Nat.mod_eq_of_lt h2]
theorem val_drop {B : Nat} (hB : 1 < B) {xs : List Nat} (h : ∀ d ∈ xs, d < B) (k : Nat) : val B (xs.drop k) = val B xs / B ^ k := by
  have h1 := val_split B xs k
  have h2 := val_lt (B := B) (xs := xs.take k) (fun d hd => h d (List.mem_of_mem_take hd))
  rcases Nat.lt_or_ge xs.length k with hk | hk
  · rw [val_nil_drop (by omega), Nat.div_eq_of_lt]
    exact Nat.lt_of_lt_of_le (val_lt h) (Nat.pow_le_pow_right (by omega) (by omega))
  · have hl : (xs.take k).length = k := by simp; omega
    rw [hl] at h1 h2
    rw [h1, Nat.add_mul_div_left _ _ (Nat.pow_pos (by omega)), Nat.div_eq_of_lt h2, Nat.zero_add]
theorem dig_at {B : Nat} (hB : 1 < B) {xs : List Nat} (h : ∀ d ∈ xs, d < B) {k x : Nat} (hx : xs[k]? = some x) : x = val B xs / B ^ k % B := by
 rw [← val_drop hB h, drop_cons hx, val, Nat.add_mul_mod_self_left, Nat.mod_eq_of_lt (h x (List.mem_of_getElem? hx))]
theorem val_set {B : Nat} : ∀ {xs : List Nat} {p o v : Nat}, xs[p]? = some o → val B (xs.set p v) + B ^ p * o = val B xs + B ^ p * v
 | [], p, o, v, h => by simp at h
 | x :: xs, 0, o, v, h => by simp at h; subst h; simp [val]; omega
 | x :: xs, p + 1, o, v, h => by
  have := val_set (B := B) (v := v) (show xs[p]? = some o by simpa using h)
  simp only [List.set_cons_succ, val, Nat.pow_succ]
  have e : B * (val B (xs.set p v) + B ^ p * o) = B * (val B xs + B ^ p * v) := by rw [this]
  rw [Nat.mul_add, Nat.mul_add] at e
  rw [Nat.mul_comm (B ^ p) B, Nat.mul_assoc, Nat.mul_assoc]; omega
theorem set_lt {B : Nat} {xs : List Nat} {p v : Nat} (h : ∀ d ∈ xs, d < B) (hv : v < B) : ∀ d ∈ xs.set p v, d < B := by
  intro d hd
  rcases List.mem_or_eq_of_mem_set hd with h' | h'
  · exact h d h'
  · exact h' ▸ hv
theorem val_zeros (B n : Nat) : val B (List.replicate n 0) = 0 := by induction n <;> simp_all [List.replicate_succ, val]
theorem zeros_lt {B n : Nat} (hB : 1 < B) : ∀ d ∈ List.replicate n 0, d < B := by intro d hd; rw [List.eq_of_mem_replicate hd]; omega
theorem get_some {α : Type} {xs : List α} {i : Nat} (h : i < xs.length) : ∃ x, xs[i]? = some x := ⟨_, List.getElem?_eq_getElem h⟩
theorem zero_at {B : Nat} (hB : 1 < B) {xs : List Nat} (h : ∀ d ∈ xs, d < B) {k x : Nat} (hx : xs[k]? = some x) (hv : val B xs < B ^ k) : x = 0 := by
 rw [dig_at hB h hx, Nat.div_eq_of_lt hv, Nat.zero_mod]
theorem mul_step {B c x y o : Nat} (hc : c < B) (hx : x < B) (hy : y < B) (ho : o < B) : (c + (x * y + o)) / B < B ∧ (c + (x * y + o)) % B < B ∧ x * y ≤ (B - 1) * (B - 1) := by
 have h1 : x * y ≤ (B - 1) * (B - 1) := Nat.mul_le_mul (by omega) (by omega)
 refine ⟨?_, Nat.mod_lt _ (by omega), h1⟩
 rw [Nat.div_lt_iff_lt_mul (by omega)]
 obtain ⟨b, rfl⟩ : ∃ b, B = b + 1 := ⟨B - 1, by omega⟩
 simp only [Nat.add_sub_cancel] at h1
 have : (b + 1) * (b + 1) = b * b + 2 * b + 1 := by rw [Nat.mul_add, Nat.add_mul]; omega
 omega
structure Est (B V w d : Nat) : Prop where
 lt : d < B
 up : w < (d + 1) * V
 low : d * V ≤ w + V
theorem Est.right {B V w d : Nat} (h : Est B V w d) (hV : 0 < V) (hle : d * V ≤ w) : d = w / V := quot_of hV hle (by have := h.up; rw [Nat.add_mul, Nat.one_mul] at this; exact this)
theorem Est.over {B V w d : Nat} (h : Est B V w d) (hV : 0 < V) (hgt : w < d * V) : 0 < d ∧ d - 1 = w / V ∧ w + V - d * V = w - (d - 1) * V ∧ (d - 1) * V ≤ w := by
  have hd : 0 < d := by rcases Nat.eq_zero_or_pos d with rfl | h; · simp at hgt
                        · exact h
  obtain ⟨e, rfl⟩ : ∃ e, d = e + 1 := ⟨d - 1, by omega⟩
  have h1 := h.low
  rw [Nat.add_mul, Nat.one_mul] at h1 hgt
  refine ⟨hd, quot_of hV (by simp; omega) (by simp; omega), ?_, by simp; omega⟩
  simp only [Nat.add_sub_cancel, Nat.add_mul, Nat.one_mul]; omega
structure Digs (B K V w top next x third : Nat) : Prop where
 hV : ∃ v0, v0 < K ∧ V = (top * B + next) * K + v0
 hw : ∃ w0, w0 < K ∧ w = (x * B + third) * K + w0
 next : next < B
 third : third < B
 lt : w < V * B
 half : B ≤ 2 * top
 B0 : 1 < B
section
variable {B K V w top next x third d r : Nat}
theorem Digs.pos (h : Digs B K V w top next x third) : 0 < top ∧ 0 < V := by
 have h1 := h.half; have h2 := h.B0
 obtain ⟨v0, k, e⟩ := h.hV
 have : 0 < top := by omega
 refine ⟨this, ?_⟩
 have h3 : 1 * K ≤ (top * B + next) * K := Nat.mul_le_mul_right _ (by have := Nat.mul_le_mul this (Nat.le_of_lt h2); omega)
 omega
theorem Digs.start (h : Digs B K V w top next x third) : w < (x / top + 1) * V := by
 obtain ⟨v0, k1, e1⟩ := h.hV
 obtain ⟨w0, k2, e2⟩ := h.hw
 have ht := h.pos.1
 have h1 : x + 1 ≤ (x / top + 1) * top := by
  have := Nat.div_add_mod x top; have h2 := Nat.mod_lt x ht
  rw [Nat.add_mul, Nat.one_mul, Nat.mul_comm (x / top) top]; omega
 have h2 : (x + 1) * B ≤ (x / top + 1) * top * B := Nat.mul_le_mul_right _ h1
 have h3 : x * B + third + 1 ≤ (x / top + 1) * (top * B + next) := by
  rw [Nat.mul_add, ← Nat.mul_assoc]; rw [Nat.add_mul x 1 B, Nat.one_mul] at h2; have := h.third; omega
 have h4 : (x * B + third + 1) * K ≤ (x / top + 1) * (top * B + next) * K := Nat.mul_le_mul_right _ h3
 rw [Nat.add_mul (x * B + third), Nat.one_mul] at h4
 have h5 : (x / top + 1) * V = (x / top + 1) * (top * B + next) * K + (x / top + 1) * v0 := by rw [e1, Nat.mul_add, Nat.mul_assoc]
 omega
theorem Digs.first (h : Digs B K V w top next x third) : x / top ≤ B + 1 := by
 obtain ⟨v0, k1, e1⟩ := h.hV
 obtain ⟨w0, k2, e2⟩ := h.hw
 exact est_first e1 e2 k1 h.next (by have := h.B0; omega) h.lt h.half
theorem Digs.less (h : Digs B K V w top next x third) (hx : d * top + r = x) (hc : B ≤ d ∨ r * B + third < d * next) : 0 < d ∧ w < (d - 1 + 1) * V ∧ (d - 1) * top + (r + top) = x := by
  have hB := h.B0
  have hd : 0 < d := by
    rcases hc with hc | hc
    · omega
    · rcases Nat.eq_zero_or_pos d with rfl | h
      · simp at hc
      · exact h
  refine ⟨hd, ?_, ?_⟩
  · rw [Nat.sub_add_cancel hd]
    rcases hc with hc | hc
    · have h1 := h.lt; have : B * V ≤ d * V := Nat.mul_le_mul_right _ hc
      rw [Nat.mul_comm] at h1; omega
    · obtain ⟨v0, k1, e1⟩ := h.hV
      obtain ⟨w0, k2, e2⟩ := h.hw
      exact est_low e1 e2 k2 hx hc
  · obtain ⟨e, rfl⟩ : ∃ e, d = e + 1 := ⟨d - 1, by omega⟩
    rw [Nat.add_mul, Nat.one_mul] at hx; simp; omega
theorem Digs.done (h : Digs B K V w top next x third) (hx : d * top + r = x) (hu : w < (d + 1) * V) (hd : d < B) (hc : d * next ≤ r * B + third) : Est B V w d := by
 obtain ⟨v0, k1, e1⟩ := h.hV
 obtain ⟨w0, k2, e2⟩ := h.hw
 exact ⟨hd, hu, est_high e1 e2 k1 hx hc (by omega) h.pos.1⟩
theorem Digs.early (h : Digs B K V w top next x third) (hx : d * top + r = x) (hu : w < (d + 1) * V) (hd : d < B) (hr : B ≤ r) : Est B V w d := by
 refine h.done hx hu hd ?_
 have h1 : d * next ≤ B * B := Nat.mul_le_mul (by omega) (by have := h.next; omega)
 have h2 : B * B ≤ r * B := Nat.mul_le_mul_right _ hr
 omega
theorem Digs.small (h : Digs B K V w top next x third) (hx : d * top + r = x) (hd : B < d) : r + top < B := by
 obtain ⟨v0, k1, e1⟩ := h.hV
 obtain ⟨w0, k2, e2⟩ := h.hw
 have hlt := h.lt
 have h1 : x * B * K ≤ w := by rw [e2, Nat.add_mul]; omega
 have h2 : V * B < ((top * B + next) * K + K) * B := Nat.mul_lt_mul_of_pos_right (by omega) (by have := h.B0; omega)
 have h3 : x * B * K < (top * B + next + 1) * B * K := by
  have : ∀ X : Nat, (X * K + K) * B = (X + 1) * B * K := fun X => by rw [Nat.add_mul X 1 B, Nat.one_mul, Nat.add_mul (X * K), Nat.add_mul (X * B), Nat.mul_right_comm, Nat.mul_comm K B]
  rw [← this]; omega
 have h4 : x * B < (top * B + next + 1) * B := Nat.lt_of_mul_lt_mul_right h3
 have h5 : x < top * B + next + 1 := Nat.lt_of_mul_lt_mul_right h4
 have h6 : (B + 1) * top ≤ d * top := Nat.mul_le_mul_right _ hd
 rw [Nat.add_mul, Nat.one_mul, Nat.mul_comm B top] at h6
 have := h.next
 omega
end
theorem digs_of {B n V w : Nat} {vs ws : List Nat} {top next u1 u2 third : Nat} (hB : 1 < B) (hv : ∀ d ∈ vs, d < B) (hw : ∀ d ∈ ws, d < B) (hvl : vs.length = n + 2) (hwl : ws.length = n + 3) (hV : val B vs = V) (hW : val B ws = w)
    (h1 : vs[n + 1]? = some top) (h2 : vs[n]? = some next) (h3 : ws[n + 2]? = some u1) (h4 : ws[n + 1]? = some u2) (h5 : ws[n]? = some third) (hlt : w < V * B) (hh : B ≤ 2 * top) : Digs B (B ^ n) V w top next (u1 * B + u2) third := by
  have l1 := val_lt (B := B) (xs := vs.take n) (fun d hd => hv d (List.mem_of_mem_take hd))
  have l2 := val_lt (B := B) (xs := ws.take n) (fun d hd => hw d (List.mem_of_mem_take hd))
  have e1 : (vs.take n).length = n := by simp; omega
  have e2 : (ws.take n).length = n := by simp; omega
  rw [e1] at l1
  rw [e2] at l2
  refine ⟨⟨_, l1, ?_⟩, ⟨_, l2, ?_⟩, hv _ (List.mem_of_getElem? h2), hw _ (List.mem_of_getElem? h5), hlt, hh, hB⟩
  · rw [← hV, val_split B vs n, e1, drop_cons h2, drop_cons h1, List.drop_eq_nil_of_le (by omega)]
    simp only [val, Nat.mul_zero, Nat.add_zero]
    rw [Nat.mul_comm (B ^ n), Nat.mul_comm top B, Nat.add_comm next]; omega
  · rw [← hW, val_split B ws n, e2, drop_cons h5, drop_cons h4, drop_cons h3, List.drop_eq_nil_of_le (by omega)]
    simp only [val, Nat.mul_zero, Nat.add_zero]
    have e : third + B * (u2 + B * u1) = (u1 * B + u2) * B + third := by rw [Nat.mul_comm B, Nat.add_comm u2, Nat.mul_comm B u1]; omega
    rw [e, Nat.mul_comm (B ^ n)]; omega
theorem val_take_succ {B : Nat} {xs : List Nat} {i x : Nat} (h : xs[i]? = some x) : val B (xs.take (i + 1)) = val B (xs.take i) + B ^ i * x := by
 have hlt := (List.getElem?_eq_some_iff.1 h).1
 rw [List.take_add_one, h, val_append]
 simp [val, Nat.min_eq_left (Nat.le_of_lt hlt)]
theorem enc_pad {B : Nat} (hB : 1 < B) {xs : List Nat} (h : ∀ d ∈ xs, d < B) : xs = enc B (val B xs) ++ List.replicate (xs.length - (enc B (val B xs)).length) 0 := by
  induction hn : xs.length using Nat.strongRecOn generalizing xs with
  | _ n ih =>
    rcases List.eq_nil_or_concat xs with rfl | ⟨ys, y, rfl⟩
    · simp [val, enc_zero] at hn ⊢; subst hn; simp
    · rw [List.concat_eq_append] at *
      by_cases hy : y = 0
      · subst hy
        have hl : ys.length < n := by simp at hn; omega
        have := ih ys.length hl (fun d hd => h d (by simp [hd])) rfl
        have hv : val B (ys ++ [0]) = val B ys := by rw [val_append]; simp [val]
        rw [hv]
        have hle : (enc B (val B ys)).length ≤ ys.length := enc_len_le hB (val_lt (fun d hd => h d (by simp [hd])))
        conv => lhs; rw [this]
        rw [List.append_assoc]
        congr 1
        have : n - (enc B (val B ys)).length = (ys.length - (enc B (val B ys)).length) + 1 := by simp at hn; omega
        rw [this, List.replicate_succ']
      · have e := enc_val hB h (fun x hx => by simp at hx; omega)
        rw [e, ← hn, Nat.sub_self]; simp
def padL (B L v : Nat) : List Nat := enc B v ++ List.replicate (L - (enc B v).length) 0
theorem pad_of {B : Nat} (hB : 1 < B) {xs : List Nat} (h : ∀ d ∈ xs, d < B) {L v : Nat} (hl : xs.length = L) (hv : val B xs = v) : xs = padL B L v := by subst hl hv; exact enc_pad hB h
theorem pad_len {B L v : Nat} (hB : 1 < B) (h : v < B ^ L) : (padL B L v).length = L := by
 have := enc_len_le hB h; simp [padL]; omega
theorem pad_lt {B L v : Nat} (hB : 1 < B) : ∀ d ∈ padL B L v, d < B := by
  intro d hd
  rcases List.mem_append.1 hd with h | h
  · exact enc_lt hB v d h
  · rw [List.eq_of_mem_replicate h]; omega
theorem pad_val {B L v : Nat} (hB : 1 < B) : val B (padL B L v) = v := by simp [padL, val_append, val_zeros, val_enc hB]
theorem mid_get {α : Type} {pre ds post : List α} {i : Nat} (h : i < ds.length) : (pre ++ ds ++ post)[pre.length + i]? = ds[i]? := by
 rw [List.append_assoc, List.getElem?_append_right (by omega), Nat.add_sub_cancel_left, List.getElem?_append_left h]
theorem mid_set {α : Type} {pre ds post : List α} {i : Nat} {e : α} (h : i < ds.length) : (pre ++ ds ++ post).set (pre.length + i) e = pre ++ ds.set i e ++ post := by
 rw [List.append_assoc, List.set_append_right _ _ (by omega), Nat.add_sub_cancel_left, List.set_append_left _ _ h, List.append_assoc]
theorem val_take_set {B : Nat} {xs : List Nat} {i e : Nat} (h : i < xs.length) : val B ((xs.set i e).take (i + 1)) = val B (xs.take i) + B ^ i * e := by
 rw [val_take_succ (x := e) (by simp [h]), List.take_set, List.set_eq_of_length_le (by simp; omega)]
theorem drop_set_succ {α : Type} {xs ys : List α} {i : Nat} {e : α} (h : xs.drop i = ys.drop i) : (xs.set i e).drop (i + 1) = ys.drop (i + 1) := by
 rw [List.drop_set_of_lt (by omega)]
 have := congrArg (List.drop 1) h
 rwa [List.drop_drop, List.drop_drop] at this
end
attribute [go_sem] natA_append
theorem s_ShortMul (hm : Tryz.prog.follows .mixedOrders = true) (a d : Nat) (ha : (enc B9 a).length ≤ 1099511627776) (hd : 0 < d) (hd2 : d ≤ 1000000000) :
    CallOk Tryz.prog 88 [natS a, .int .i64 d] (natS (a * d)) [] := by
  refine callOk_of_wpc (W := fun _ => false) false hm Tryz.func88 rfl (by kernel_rfl) (Nat.le_of_ble_eq_true rfl) (go_start ?_)
  generalize hQ : Post Tryz.prog Tryz.f88 _ _ _ _ _ = Q
  obtain ⟨n, hn⟩ : ∃ n, (enc B9 a).length = n := ⟨_, rfl⟩
  simp only [stIn, matL, matA, st00, natS]
  have hB : B9 = 1000000000 := rfl
  simp (disch := omega) only [go_sem, Nat.reduceEqDiff, Nat.reduceBEq, ↓reduceIte, reduceCtorEq, List.getD_cons_zero, List.getD_cons_succ, hn, reach, Int.toNat_natCast]
  refine k_loop (fun (p : Nat × Nat × List Nat) st => st.fr 1 = .int .i64 d ∧ st.fr 5 = .ref 0 (n + 1) 0 p.1 ∧ st.fr 6 = .int .i64 p.2.1 ∧ st.fr 14 = natS a ∧ st.fr 15 = .int .i64 n ∧ st.fr 16 = .int .i64 p.1 ∧
      st.h 0 = ⟨2, natA .i64 (p.2.2 ++ List.replicate (n + 1 - p.1) 0), true, true, true⟩ ∧ p.2.2.length = p.1 ∧ p.1 ≤ n ∧ p.2.1 < d ∧ (∀ q ∈ p.2.2, q < B9) ∧ val B9 p.2.2 + B9 ^ p.1 * p.2.1 = d * val B9 ((enc B9 a).take p.1)) (fun p => n - p.1) (0, 0, [])
    ⟨by simp [upd_app], by simp [upd_app], by simp [upd_app], by simp [upd_app, natS], by simp [upd_app], by simp [upd_app], by simp only [upd_app, if_true, List.nil_append]; rw [natA_rep, show ((n : Int) + 1).toNat = n + 1 - 0 by omega], by simp, by simp, hd, by simp, by simp [val]⟩ ?_
  rintro ⟨i, c, ds⟩ ⟨fr, h, nx⟩ ⟨h1, h5, h6, h14, h15, h16, hb, hlen, hi, hc, hq, hv⟩ J hJ
  simp only [natS] at h1 h5 h6 h14 h15 h16 hb hlen hi hc hq hv
  by_cases hin : i < n
  · obtain ⟨x, hx⟩ : ∃ x, (enc B9 a)[i]? = some x := ⟨_, List.getElem?_eq_getElem (by omega)⟩
    have hxB : x < B9 := enc_lt B9_gt a x (List.mem_of_getElem? hx)
    have gx : (natA .i64 (enc B9 a))[(i : Int).toNat]? = some (.int .i64 x) := natA_get (by simpa using hx)
    obtain ⟨c', hc'⟩ : ∃ c', (x * d + c) / 1000000000 = c' := ⟨_, rfl⟩
    obtain ⟨m, hm'⟩ : ∃ m, (x * d + c) % 1000000000 = m := ⟨_, rfl⟩
    obtain ⟨s1, s2, s3⟩ := smul_step (B := B9) hd hc hxB
    rw [hB, hc'] at s1
    rw [hB, hm'] at s2
    rw [hB, hc', hm'] at s3
    have hxd : x * d ≤ 1000000000 * 1000000000 := Nat.mul_le_mul (by omega) hd2
    have w1 : (x : Int) * (d : Int) = ((x * d : Nat) : Int) := by simp
    have w2 : ((x * d : Nat) : Int) + (c : Int) = ((x * d + c : Nat) : Int) := by simp
    obtain ⟨z, hz⟩ : ∃ z, x * d = z := ⟨_, rfl⟩
    rw [hz] at w1 w2 hxd hc' hm' s3
    have w3 : ((z + c : Nat) : Int).tmod 1000000000 = (m : Int) := by rw [← hm']; exact tmodN _ 1000000000
    have w4 : ((z + c : Nat) : Int).tdiv 1000000000 = (c' : Int) := by rw [← hc']; exact tdivN _ 1000000000
    have gl : (natA .i64 (ds ++ List.replicate (n + 1 - i) 0)).length = n + 1 := by simp [natA_length]; omega
    have gt : (natA .i64 (ds ++ List.replicate (n + 1 - i) 0)).take i = natA .i64 ds := by rw [natA_take, ← hlen, List.take_left']; rfl
    have gd : (natA .i64 (ds ++ List.replicate (n + 1 - i) 0)).drop (i + 1) = natA .i64 (List.replicate (n - i) 0) := by
      have e0 : ds.drop (i + 1) = [] := List.drop_eq_nil_of_le (by omega)
      rw [natA_drop, List.drop_append, hlen, e0, List.nil_append, List.drop_replicate, show n + 1 - i - (i + 1 - i) = n - i by omega]
    replace hv := Hide.mk hv
    replace s3 := Hide.mk s3
    replace hz := Hide.mk hz
    replace hm' := Hide.mk hm'
    replace hc' := Hide.mk hc'
    simp (disch := omega) only [go_sem, Nat.reduceEqDiff, Nat.reduceBEq, ↓reduceIte, reduceCtorEq, h1, h5, h6, h14, h15, h16, gx, w1, w2, w3, w4, hb, gl, gt, gd, reach, hn]
    replace hv := hv.get
    replace s3 := s3.get
    replace hz := hz.get
    refine hJ (i + 1, c', ds ++ [m]) _ ⟨by simp [upd_app, h1], by simp [upd_app], by simp [upd_app], by simp [upd_app, h14, natS], by simp [upd_app, h15], by simp [upd_app], ?_, by simp [hlen], hin, s1, ?_, ?_⟩ (by simp only; omega)
    · simp only [upd_app, if_true]; rw [show n + 1 - (i + 1) = n - i by omega]
    · intro q hq'; rcases List.mem_append.1 hq' with h | h
      · exact hq q h
      · simp at h; rw [h, hB]; exact s2
    · simp only [val_append, val_take_succ hx, hlen, Nat.mul_add]
      rw [← hv]
      have e : B9 ^ i * (m + B9 * c') = B9 ^ i * (z + c) := by rw [← s3, hB]
      rw [Nat.mul_add, Nat.mul_add, ← hz] at e
      simp only [val, Nat.mul_zero, Nat.add_zero, Nat.pow_succ]
      have e2 : B9 ^ i * B9 * c' = B9 ^ i * (B9 * c') := Nat.mul_assoc ..
      have e3 : d * (B9 ^ i * x) = B9 ^ i * (x * d) := by rw [Nat.mul_comm d, Nat.mul_assoc]
      omega
  · obtain rfl : i = n := by omega
    have hta : (enc B9 a).take i = enc B9 a := by rw [← hn, List.take_length]
    rw [hta, val_enc B9_gt] at hv
    by_cases hc0 : c = 0
    · subst hc0
      simp (disch := omega) only [go_sem, Nat.reduceEqDiff, Nat.reduceBEq, ↓reduceIte, reduceCtorEq, h1, h5, h6, h14, h15, h16]
      have hr : natA .i64 ds = natA .i64 (enc B9 (a * d)) := by
        congr 1
        simp only [Nat.mul_zero, Nat.add_zero] at hv
        rw [Nat.mul_comm a d, ← hv]
        refine (enc_of_len B9_gt hq ?_).symm
        by_cases ha0 : a = 0
        · subst ha0; left; rw [enc_zero] at hn; exact List.length_eq_zero_iff.1 (by rw [hlen, ← hn]; rfl)
        · right; rw [hv, hlen, ← hn]; exact Nat.le_trans (enc_ge_pow B9_gt ha0) (Nat.le_mul_of_pos_left _ hd)
      rw [← hQ]
      exact post_frozen (off := 0) (len := i) (n := i + 1) (id := 0) (.inl rfl) rfl (by simp [upd_app]) (by simp [hb]) (by simp [hb, natA_length]; omega) (by simp [hb]) (by omega) (Nat.zero_le _) (by simp only [hb, List.drop_zero, natA_take]; rw [← hr]; congr 1; simp [← hlen]) (natA_pure _ _)
    · have gl : (natA .i64 (ds ++ List.replicate (i + 1 - i) 0)).length = i + 1 := by simp [natA_length]; omega
      have gt : (natA .i64 (ds ++ List.replicate (i + 1 - i) 0)).take i = natA .i64 ds := by rw [natA_take, ← hlen, List.take_left']; rfl
      have gd : (natA .i64 (ds ++ List.replicate (i + 1 - i) 0)).drop (i + 1) = [] := List.drop_eq_nil_of_le (by rw [gl]; exact Nat.le_refl _)
      simp (disch := omega) only [go_sem, Nat.reduceEqDiff, Nat.reduceBEq, ↓reduceIte, reduceCtorEq, h1, h5, h6, h14, h15, h16, hb, gl, gt, gd, reach]
      have hr : natA .i64 (ds ++ [c]) = natA .i64 (enc B9 (a * d)) := by
        congr 1
        have hv' : val B9 (ds ++ [c]) = a * d := by rw [val_append, hlen]; simp only [val, Nat.mul_zero, Nat.add_zero]; rw [hv, Nat.mul_comm]
        rw [← hv']
        refine (enc_val B9_gt (fun q hq' => ?_) fun x hx => ?_).symm
        · rcases List.mem_append.1 hq' with h | h
          · exact hq q h
          · simp at h; rw [h, hB]; omega
        · simp at hx; omega
      rw [← hQ]
      exact post_frozen (off := 0) (len := i + 1) (n := i + 1) (id := 0) (.inl rfl) rfl (by simp [upd_app]) (by simp [upd_app]) (by simp [upd_app, natA_length]; omega) (by simp [upd_app]) (by omega) (Nat.zero_le _) (by simp only [upd_app, if_true, List.drop_zero]; rw [← hr, natA_take, List.take_of_length_le (by simp [hlen])]) (natA_pure _ _)
end Go.Proofs.YtdljcbbodihagaaGreatDoor
