/- Ground 4. -/
import Derived.Scope
import Derived.Test.YtdljcbbodihagaaGreatDoorM3

set_option linter.unusedVariables false
set_option linter.unusedSimpArgs false
set_option maxRecDepth 100000
namespace Go.Proofs.YtdljcbbodihagaaGreatDoor
open Go

def idOf : AV → List Nat
 | .ptr id _ _ _ => [id]
 | .ref id _ _ _ => [id]
 | _ => []
inductive Kd where
 | blind | look (y : Operand) | put (y : Operand) | app (y v : Operand) | new | call (as0 : List Operand) | wild
def kdOf : Op → Kd
 | .load _ a => .look a
 | .indexAddr _ x _ => .look x
 | .slice _ x _ _ _ => .look x
 | .store _ a _ => .put a
 | .alloc _ => .new
 | .call { callee := .builtin .len, args := as0, argTypes := _ } => match as0.toList with | [x] => .look x | _ => .wild
 | .call { callee := .builtin .append, args := as0, argTypes := _ } => match as0.toList with | [y, v] => .app y v | _ => .wild
 | .call { callee := .value (.func _), args := as0, argTypes := _ } => .call as0.toList
 | o => if isS o then .wild else .blind
def idsK (st : St) (dst : Option Tmp) : Kd → List Nat
 | .look y => idOf (st.ev y)
 | .put y => idOf (st.ev y)
 | .app y _ => idOf (st.ev y)
 | .new => match dst with | some d => idOf (st.fr d) | none => []
 | _ => []
def idsO (st : St) (o : Oper) : List Nat := idsK st o.dst (kdOf o.op)
def Kd.chg : Kd → Bool | .put _ | .app _ _ | .new => true | _ => false
def Kd.tch : Kd → Bool | .put _ | .app _ _ | .new | .look _ => true | _ => false
def Kd.wld : Kd → Bool | .wild => true | _ => false
def apartAt (st : St) (ops : Array Oper) (p : Nat × Nat) : Prop :=
 match ops[p.1]?, ops[p.2]? with
 | some a, some b => ∀ i ∈ idsO st a, i ∉ idsO st b
 | _, _ => True
def apartL (st : St) (ops : Array Oper) : List (Nat × Nat) → Prop
 | [] => True
 | p :: ps => apartAt st ops p ∧ apartL st ops ps
def isRefA : AV → Bool | .ref _ _ _ _ => true | _ => false
def isSlA : AV → Bool | .sl _ _ _ _ => true | _ => false
def pureK (st : St) : Kd → Prop
 | .app y v => isRefA (st.ev y) = true ∧ isSlA (st.ev v) = true
 | .call as0 => AV.pureL (as0.map st.ev) = true
 | _ => True
def pureOL (st : St) : List Oper → Prop
 | [] => True
 | o :: os => pureK st (kdOf o.op) ∧ pureOL st os
theorem apartL_mem {st : St} {ops : Array Oper} : ∀ {ps : List (Nat × Nat)}, apartL st ops ps → ∀ p ∈ ps, apartAt st ops p
  | [], _, _, h => by cases h
  | q :: ps, h, p, hp => by
    rcases List.mem_cons.1 hp with rfl | hp
    · exact h.1
    · exact apartL_mem h.2 p hp
theorem pureOL_mem {st : St} : ∀ {os : List Oper}, pureOL st os → ∀ o ∈ os, pureK st (kdOf o.op)
  | [], _, _, h => by cases h
  | q :: ps, h, p, hp => by
    rcases List.mem_cons.1 hp with rfl | hp
    · exact h.1
    · exact pureOL_mem h.2 p hp
def tmpClash (ops : Array Oper) (a b : Oper) : Bool :=
 (match a.dst with | some d => (b.looksAt ops).contains d || b.dst == some d | none => false) || (match b.dst with | some d => (a.looksAt ops).contains d | none => false)
def tmpsK (dst : Option Tmp) : Kd → List Tmp
 | .look (.tmp t) => [t]
 | .put (.tmp t) => [t]
 | .app y v => [y, v].filterMap fun y => match y with | .tmp t => some t | _ => none
 | .new => dst.toList
 | .call as0 => as0.filterMap fun y => match y with | .tmp t => some t | _ => none
 | _ => []
def drawOkD (ps : List (Nat × Nat)) (ops : Array Oper) : Bool :=
 let B := befs ops
 let r := List.range ops.size
 (r.all fun j => (edgesB ops j).all fun k => decide (k < j)) &&
 (r.all fun j => r.all fun i => !(bget B j i) || (edgesB ops j).any fun k => k == i || bget B k i) &&
 (r.all fun j => (List.range j).all fun i => match ops[i]?, ops[j]? with
  | some a, some b => (!(tmpClash ops a b) || bget B j i) && (!(((kdOf a.op).chg && (kdOf b.op).tch) || ((kdOf a.op).tch && (kdOf b.op).chg)) || bget B j i || ps.contains (i, j))
  | _, _ => true) &&
 (r.all fun i => match ops[i]? with
  | some o => !(kdOf o.op).wld && (tmpsK o.dst (kdOf o.op)).all fun t => r.all fun j => decide (j < i) || (match ops[j]? with | some b => !(b.dst == some t) || (j == i && (match kdOf o.op with | .new => true | _ => false)) | none => true)
  | none => true)
section
variable {P : Program} {W : FuncId → Bool} {ops : Array Oper} {s : Nat → St} {x : Nat → AV}
theorem drawOkD_parts {ps : List (Nat × Nat)} (h : drawOkD ps ops = true) : (∀ j, j < ops.size → ∀ k ∈ edgesB ops j, k < j) ∧
    (∀ j i, j < ops.size → i < ops.size → bget (befs ops) j i = true → ∃ k ∈ edgesB ops j, k = i ∨ bget (befs ops) k i = true) ∧
    (∀ i j a b, i < j → ops[i]? = some a → ops[j]? = some b → (tmpClash ops a b = true → bget (befs ops) j i = true) ∧
      (((kdOf a.op).chg = true ∧ (kdOf b.op).tch = true ∨ (kdOf a.op).tch = true ∧ (kdOf b.op).chg = true) → bget (befs ops) j i = true ∨ (i, j) ∈ ps)) ∧
    (∀ (i : Nat) (o : Oper), ops[i]? = some o → (kdOf o.op).wld = false ∧ ∀ t ∈ tmpsK o.dst (kdOf o.op), ∀ j, i ≤ j → ∀ b : Oper, ops[j]? = some b → b.dst = some t → j = i ∧ kdOf o.op = .new) := by
  simp only [drawOkD, Bool.and_eq_true, List.all_eq_true, List.mem_range, decide_eq_true_eq] at h
  obtain ⟨⟨⟨h1, h2⟩, h3⟩, h4⟩ := h
  have lt : ∀ {i : Nat} {a : Oper}, ops[i]? = some a → i < ops.size := fun {i a} ha => by
    rcases Nat.lt_or_ge i ops.size with h | h
    · exact h
    · rw [Array.getElem?_eq_none h] at ha; cases ha
  refine ⟨h1, fun j i hj hi hb => ?_, fun i j a b hij ha hb => ?_, fun i o ho => ?_⟩
  · have := h2 j hj i hi
    rw [hb] at this
    simp only [Bool.not_true, Bool.false_or, List.any_eq_true, Bool.or_eq_true, beq_iff_eq] at this
    exact this
  · have := h3 j (lt hb) i hij
    rw [ha, hb] at this
    simp only [Bool.and_eq_true, Bool.or_eq_true, Bool.not_eq_true', Bool.or_eq_false_iff, Bool.and_eq_false_iff, List.contains_eq_mem, decide_eq_true_eq] at this
    obtain ⟨k1, k2⟩ := this
    refine ⟨fun hc => k1.resolve_left (by rw [hc]; simp), fun hc => ?_⟩
    rcases k2 with (⟨q1, q2⟩ | q) | q
    · exfalso
      rcases hc with ⟨c1, c2⟩ | ⟨c1, c2⟩
      · rcases q1 with q | q
        · rw [c1] at q; cases q
        · rw [c2] at q; cases q
      · rcases q2 with q | q
        · rw [c1] at q; cases q
        · rw [c2] at q; cases q
    · exact .inl q
    · exact .inr q
  · have := h4 i (lt ho)
    rw [ho] at this
    simp only [Bool.and_eq_true, Bool.not_eq_true', List.all_eq_true, List.mem_range, Bool.or_eq_true, decide_eq_true_eq] at this
    refine ⟨this.1, fun t ht j hij b hb hd => ?_⟩
    have k := this.2 t ht j (lt hb)
    rw [hb] at k
    simp only [Bool.or_eq_true, Bool.not_eq_true', Bool.and_eq_true, beq_iff_eq, hd, BEq.rfl, Bool.true_eq_false, false_or] at k
    rcases k with k | ⟨k1, k2⟩
    · omega
    · refine ⟨k1, ?_⟩
      cases hk : kdOf o.op <;> rw [hk] at k2 <;> first | rfl | cases k2
def Hof (ops : Array Oper) (s : Nat → St) (k : Nat) (id : Nat) : Blk := if (s k).nx ≤ id ∧ id < (s ops.size).nx then Blk.dead else (s k).h id
structure Drawn2 (ops : Array Oper) (s : Nat → St) (x : Nat → AV) (D : Nat → Prop) (st : St) : Prop where
 shut : ∀ j, D j → ∀ k ∈ edgesB ops j, D k
 lt : ∀ j, D j → j < ops.size
 fr : ∀ t, Holds ops s x D t (st.fr t)
 nx : st.nx = (s ops.size).nx
 mem : ∀ id, ∃ k, k ≤ ops.size ∧ st.h id = Hof ops s k id ∧ ∀ i, i < ops.size → Hof ops s i id ≠ Hof ops s (i + 1) id → (D i ↔ i < k)
theorem before2 (h1 : ∀ j, j < ops.size → ∀ k ∈ edgesB ops j, k < j) (h2 : ∀ j i, j < ops.size → i < ops.size → bget (befs ops) j i = true → ∃ k ∈ edgesB ops j, k = i ∨ bget (befs ops) k i = true) {D : Nat → Prop}
    (shut : ∀ j, D j → ∀ k ∈ edgesB ops j, D k) (lt : ∀ j, D j → j < ops.size) : ∀ j, D j → ∀ i, i < ops.size → bget (befs ops) j i = true → D i := by
  intro j
  induction j using Nat.strongRecOn with
  | _ j ih =>
    intro hj i hi hb
    obtain ⟨k, hk, hc⟩ := h2 j i (lt j hj) hi hb
    have hDk := shut j hj k hk
    rcases hc with rfl | hc
    · exact hDk
    · exact ih k (h1 j (lt j hj) k hk) hDk i hi hc
theorem loadA_at {st st2 : St} {t : Nat} {a : AV} (hh : ∀ id ∈ idOf a, st2.h id = st.h id) : loadA P st2 t a = loadA P st t a := by
 cases a <;> try rfl
 rename_i id n i j
 simp only [loadA, hh id (by simp [idOf])]
theorem loadA_lv {st : St} {t : Nat} {a y : AV} (h : loadA P st t a = some y) : ∀ id ∈ idOf a, (st.h id).lv = true := by
  intro i hi
  cases a <;> simp only [loadA] at h <;> simp [idOf] at hi <;> try (cases h; done)
  subst hi
  split at h
  · rename_i hc; exact hc.1
  · cases h
theorem lenA_at {st st2 : St} {a : AV} (hh : ∀ id ∈ idOf a, st2.h id = st.h id) : lenA st2 a = lenA st a := by
 cases a <;> try rfl
 rename_i id n i j
 simp only [lenA, hh id (by simp [idOf])]
theorem lenA_lv {st : St} {a : AV} {y : Int} (h : lenA st a = some y) : ∀ id ∈ idOf a, (st.h id).lv = true := by
  intro i hi
  cases a <;> simp only [lenA] at h <;> simp [idOf] at hi <;> try (cases h; done)
  subst hi
  split at h
  · rename_i hc; exact hc.1
  · cases h
theorem idxA_at {st st2 : St} {t : Nat} {a i : AV} (hh : ∀ id ∈ idOf a, st2.h id = st.h id) : indexAddrA P st2 t a i = indexAddrA P st t a i := by
 cases a
 case ref id n k j =>
  cases i <;> try rfl
  simp only [indexAddrA, hh id (by simp [idOf])]
 all_goals (cases i <;> rfl)
theorem idxA_lv {st : St} {t : Nat} {a i y : AV} (h : indexAddrA P st t a i = some y) : ∀ id ∈ idOf a, (st.h id).lv = true := by
  intro j hj
  cases a <;> cases i <;> simp only [indexAddrA] at h <;> simp [idOf] at hj <;> try (cases h; done)
  subst hj
  split at h
  · rename_i hc; exact hc.1
  · cases h
theorem sliceA_at {st st2 : St} {t : Nat} {a : AV} {lo hi mx : Option AV} (hh : ∀ id ∈ idOf a, st2.h id = st.h id) : sliceA P st2 t a lo hi mx = sliceA P st t a lo hi mx := by
 cases mx <;> cases a
 case some.ref v id n k j => simp only [sliceA, hh id (by simp [idOf])]
 case none.ref id n k j => simp only [sliceA, hh id (by simp [idOf])]
 all_goals rfl
theorem sliceA_lv {st : St} {t : Nat} {a y : AV} {lo hi mx : Option AV} (h : sliceA P st t a lo hi mx = some y) : ∀ id ∈ idOf a, (st.h id).lv = true := by
  intro j hj
  cases a <;> simp [idOf] at hj
  case ptr => cases mx <;> simp only [sliceA] at h <;> first | (cases h; done) | (split at h <;> cases h)
  subst hj
  cases mx <;> simp only [sliceA] at h
  · split at h
    · rename_i hc; exact hc.1
    · cases h
  · split at h
    · split at h
      · rename_i hc; exact hc.1
      · cases h
    · cases h
theorem put_at {st st2 st' : St} {o : Op} {y : Operand} {z : AV} (hk : kdOf o = .put y) (hev : ∀ y ∈ o.operands, st2.ev y = st.ev y) (hh : ∀ id ∈ idOf (st.ev y), st2.h id = st.h id) (h : evalOp P st o = some (z, st')) :
    ∃ id b, idOf (st.ev y) = [id] ∧ (st.h id).lv = true ∧ st' = { st with h := upd st.h id b } ∧ evalOp P st2 o = some (z, { st2 with h := upd st2.h id b }) := by
  cases o <;> simp only [Op.operands] at hev <;> simp only [kdOf] at hk <;> try (cases hk; done)
  case store t a v =>
    cases hk
    simp only [evalOp] at h ⊢
    split at h
    · rename_i hc
      rw [if_pos hc, hev y (by simp), hev v (by simp)]
      cases ha : st.ev y <;> rw [ha] at h hh <;> simp only [storeA, Option.map_none, reduceCtorEq] at h
      rename_i id n i j
      simp only [storeA]
      rw [hh id (by simp [idOf])]
      split at h
      · rename_i hl
        rw [if_pos hl]
        split at h
        · rename_i w hw
          try rw [hw]
          try simp only
          cases hs : stA P t w j (st.ev v) with
          | none => rw [hs] at h; cases h
          | some x' =>
            rw [hs] at h
            simp only [Option.map_some, Option.some.injEq, Prod.mk.injEq] at h ⊢
            exact ⟨id, _, rfl, hl.1, h.2.symm, h.1, rfl⟩
        · cases h
      · cases h
    · cases h
  case call c =>
    obtain ⟨callee, args, ts⟩ := c
    cases callee with
    | invoke r m => simp [isS] at hk
    | value f => cases f <;> simp [isS] at hk
    | builtin b =>
      cases b <;> simp [isS] at hk
      all_goals (try (split at hk <;> cases hk; done))
  all_goals (try (simp [isS] at hk; done))
  all_goals (try (split at hk <;> cases hk; done))
theorem look_at {st st2 st' : St} {o : Op} {y : Operand} {z : AV} (hk : kdOf o = .look y) (hev : ∀ y ∈ o.operands, st2.ev y = st.ev y) (hh : ∀ id ∈ idOf (st.ev y), st2.h id = st.h id) (h : evalOp P st o = some (z, st')) :
    st' = st ∧ evalOp P st2 o = some (z, st2) ∧ ∀ id ∈ idOf (st.ev y), (st.h id).lv = true := by
  have mm : ∀ (r : Option AV), (r.map fun z => (z, st)) = some (z, st') → st' = st ∧ (r.map fun z => (z, st2)) = some (z, st2) ∧ r = some z := by
    intro r hr; cases r with
    | none => cases hr
    | some z => cases hr; exact ⟨rfl, rfl, rfl⟩
  cases o <;> simp only [Op.operands] at hev <;> simp only [kdOf] at hk <;> try (cases hk; done)
  case load t a =>
    cases hk
    simp only [evalOp] at h ⊢
    split at h
    · rename_i hc
      obtain ⟨k1, k2, k3⟩ := mm _ h
      rw [if_pos hc, hev y (by simp), loadA_at hh]
      exact ⟨k1, k2, loadA_lv k3⟩
    · cases h
  case indexAddr t x i =>
    cases hk
    simp only [evalOp] at h ⊢
    obtain ⟨k1, k2, k3⟩ := mm _ h
    rw [hev y (by simp), hev i (by simp), idxA_at hh]
    exact ⟨k1, k2, idxA_lv k3⟩
  case slice t x lo hi mx =>
    cases hk
    simp only [evalOp] at h ⊢
    obtain ⟨k1, k2, k3⟩ := mm _ h
    have h1 : lo.map st2.ev = lo.map st.ev := by cases lo with | none => rfl | some y => simp [hev y (by simp)]
    have h2 : hi.map st2.ev = hi.map st.ev := by cases hi with | none => rfl | some y => simp [hev y (by simp)]
    have h3 : mx.map st2.ev = mx.map st.ev := by cases mx with | none => rfl | some y => simp [hev y (by simp)]
    rw [h1, h2, h3, hev y (by simp), sliceA_at hh]
    exact ⟨k1, k2, sliceA_lv k3⟩
  case buildSlice t len ps => split at hk <;> cases hk
  case convert s d y => split at hk <;> cases hk
  case call c =>
    obtain ⟨callee, args, ts⟩ := c
    cases callee with
    | invoke r m => simp [isS] at hk
    | value f => cases f <;> simp [isS] at hk
    | builtin b =>
      cases b <;> simp [isS] at hk
      case len =>
        split at hk
        · rename_i x hx
          cases hk
          have hm : st2.ev y = st.ev y := hev y (by
            simp [Call.operands]
            have : y ∈ args.toList := by rw [hx]; simp
            simpa using this)
          simp only [evalOp] at h ⊢
          rw [hx] at h ⊢
          split at h
          · rename_i x' t' h1 h2
            cases h1
            split at h
            · rename_i hc
              cases hl : lenA st (st.ev y) with
              | none => rw [hl] at h; cases h
              | some n =>
                rw [hl] at h
                simp only [Option.map_some, Option.some.injEq, Prod.mk.injEq] at h
                refine ⟨h.2.symm, ?_, lenA_lv hl⟩
                try rw [h2]
                simp only [hm, hc, if_true, lenA_at hh, hl, Option.map_some, h.1]
            · cases h
          all_goals (first | (rename_i h1 _ _; cases h1; done) | (rename_i h1 _; cases h1; done) | (cases h; done))
        · cases hk
      all_goals (first | cases hk | (split at hk <;> cases hk; done) | skip)
theorem app_at {st st2 st' : St} {o : Op} {y v : Operand} {z : AV} (hk : kdOf o = .app y v) (hp : isRefA (st.ev y) = true ∧ isSlA (st.ev v) = true) (hev : ∀ y ∈ o.operands, st2.ev y = st.ev y) (hh : ∀ id ∈ idOf (st.ev y), st2.h id = st.h id) (h : evalOp P st o = some (z, st')) :
    ∃ id b, idOf (st.ev y) = [id] ∧ (st.h id).lv = true ∧ st' = { st with h := upd st.h id b } ∧ evalOp P st2 o = some (z, { st2 with h := upd st2.h id b }) := by
  cases o <;> simp only [Op.operands] at hev <;> simp only [kdOf] at hk <;> try (cases hk; done)
  case call c =>
    obtain ⟨callee, args, ts⟩ := c
    cases callee with
    | invoke r m => simp [isS] at hk
    | value f => cases f <;> simp [isS] at hk
    | builtin b =>
      cases b <;> simp [isS] at hk
      case append =>
        split at hk
        · rename_i y' v' hx
          cases hk
          have hm1 : st2.ev y = st.ev y := hev y (by
            simp [Call.operands]
            have : y ∈ args.toList := by rw [hx]; simp
            simpa using this)
          have hm2 : st2.ev v = st.ev v := hev v (by
            simp [Call.operands]
            have : v ∈ args.toList := by rw [hx]; simp
            simpa using this)
          obtain ⟨hp1, hp2⟩ := hp
          cases ha : st.ev y <;> rw [ha] at hp1 <;> simp only [isRefA, Bool.false_eq_true] at hp1
          rename_i id n off len
          cases hb : st.ev v <;> rw [hb] at hp2 <;> simp only [isSlA, Bool.false_eq_true] at hp2
          rename_i t xs sp ex
          rw [ha] at hh
          have hid := hh id (by simp [idOf])
          simp only [evalOp] at h ⊢
          rw [hx] at h ⊢
          cases hts : ts.toList with
          | nil => rw [hts] at h; cases h
          | cons a l =>
            cases l with
            | nil => rw [hts] at h; cases h
            | cons b l =>
              cases l with
              | cons c l => rw [hts] at h; cases h
              | nil =>
                rw [hts] at h
                simp only [hm1, hm2, ha, hb] at h ⊢
                obtain ⟨e, he, h⟩ := Option.bind_eq_some_iff.1 h
                rw [he]
                simp only [Option.bind_some, winA] at h ⊢
                split at h
                · rename_i ys hys
                  simp only [appendA] at h ⊢
                  rw [hid]
                  split at h
                  · rename_i hl
                    rw [if_pos hl]
                    split at h
                    · rename_i hc
                      rw [if_pos hc]
                      simp only [Option.some.injEq, Prod.mk.injEq] at h ⊢
                      exact ⟨id, _, rfl, hl.1, h.2.symm, h.1, rfl⟩
                    · rename_i hc
                      rw [if_neg hc]
                      split at h
                      · rename_i hc2
                        rw [if_pos hc2]
                        simp only [Option.some.injEq, Prod.mk.injEq] at h ⊢
                        exact ⟨id, _, rfl, hl.1, h.2.symm, h.1, rfl⟩
                      · cases h
                  · cases h
                · simp only [appendN] at h; cases h
        · cases hk
      all_goals (try (split at hk <;> cases hk; done))
  all_goals (try (simp [isS] at hk; done))
  all_goals (try (split at hk <;> cases hk; done))
theorem kd_blind {o : Op} (h : kdOf o = .blind) : isS o = false := by
  unfold kdOf at h
  split at h
  case h_6 => split at h <;> cases h
  case h_7 => split at h <;> cases h
  case h_9 =>
    by_cases hs : isS o = true
    · rw [if_pos hs] at h; cases h
    · simpa using hs
  all_goals cases h
theorem kd_new {o : Op} (h : kdOf o = .new) : ∃ e, o = .alloc e := by
 unfold kdOf at h
 split at h <;> first | exact ⟨_, rfl⟩ | (cases h; done) | (split at h <;> cases h; done)
theorem kd_keeps {st st' : St} {o : Op} {y : AV} (hw : (kdOf o).wld = false) (hc : (kdOf o).chg = false) (hW : ∀ as0, kdOf o = .call as0 → isW W o = false) (h : OpStep P W st o y st') : st'.h = st.h ∧ st'.nx = st.nx := by
  refine (opStep_keeps h).2 ?_
  cases o <;> simp only [kdOf] at hw hc <;> try rfl
  all_goals (try (simp [Kd.chg] at hc; done))
  case box => simp [isS, Kd.wld] at hw
  case makeSlice => simp [isS, Kd.wld] at hw
  case buildSlice t len ps =>
    by_cases hl : len = 0
    · simp [isS, hl, Kd.wld] at hw
    · simp [isW, hl]
  case call c =>
    obtain ⟨callee, args, ts⟩ := c
    cases callee with
    | invoke r m => rfl
    | value f =>
      cases f with
      | func g => exact hW _ rfl
      | tmp t => rfl
      | const v => rfl
      | global g => rfl
    | builtin b =>
      cases b <;> first | rfl | (simp [isS, Kd.wld] at hw; done) | skip
      simp only [kdOf] at hc hw
      split at hc
      · simp [Kd.chg] at hc
      · rename_i hno
        simp [Kd.wld] at hw
theorem tmp_op {st st2 : St} {t : Tmp} (h : st2.fr t = st.fr t) : st2.ev (.tmp t) = st.ev (.tmp t) := h
theorem keep_fr (hrun : RunF P W ops s x) {i : Nat} {t : Tmp} (hno : ∀ j, i ≤ j → ∀ b, ops[j]? = some b → b.dst ≠ some t) : ∀ m, i ≤ m → m ≤ ops.size → (s m).fr t = (s i).fr t := by
 intro m him
 induction him with
 | refl => intro _; rfl
 | @step m him ih =>
  intro hm
  have ho : ops[m]? = some ops[m] := Array.getElem?_eq_getElem (by omega)
  rw [(oneStep_fr (hrun m _ ho)).1, ← ih (by omega)]
  have hne := hno m him _ ho
  cases hd : ops[m].dst with
  | none => rfl
  | some d =>
   have : t ≠ d := fun e => hne (by rw [hd, e])
   simp [St.put, upd, this]
structure DHyp (P : Program) (W : FuncId → Bool) (ops : Array Oper) (s : Nat → St) (x : Nat → AV) (ps : List (Nat × Nat)) : Prop where
 ok : drawOkD ps ops = true
 run : RunF P W ops s x
 apart : apartL (s ops.size) ops ps
 pure : pureOL (s ops.size) ops.toList
 dead : ∀ id, (s 0).nx ≤ id → ((s 0).h id).lv = false
 nw : ∀ (i : Nat) (o : Oper) as0, ops[i]? = some o → kdOf o.op = .call as0 → isW W o.op = false
variable {ps : List (Nat × Nat)}
theorem DHyp.lt_of {i : Nat} {o : Oper} (ho : ops[i]? = some o) : i < ops.size := by
  rcases Nat.lt_or_ge i ops.size with h | h
  · exact h
  · rw [Array.getElem?_eq_none h] at ho; cases ho
theorem DHyp.stay (H : DHyp P W ops s x ps) {i : Nat} {o : Oper} (ho : ops[i]? = some o) (hn : kdOf o.op ≠ .new) {t : Tmp} (ht : t ∈ tmpsK o.dst (kdOf o.op)) : (s ops.size).fr t = (s i).fr t := by
 refine keep_fr H.run (fun j hij b hb hd => ?_) _ (Nat.le_of_lt (DHyp.lt_of ho)) (Nat.le_refl _)
 exact hn (((drawOkD_parts H.ok).2.2.2 i o ho).2 t ht j hij b hb hd).2
theorem DHyp.ev_stay (H : DHyp P W ops s x ps) {i : Nat} {o : Oper} (ho : ops[i]? = some o) {y : Operand} (hk : kdOf o.op = .look y ∨ kdOf o.op = .put y ∨ ∃ v, kdOf o.op = .app y v ∨ kdOf o.op = .app v y) : (s ops.size).ev y = (s i).ev y := by
 cases y with
 | tmp t =>
  refine tmp_op (H.stay ho (by rcases hk with h | h | ⟨v, h | h⟩ <;> rw [h] <;> simp) ?_)
  rcases hk with h | h | ⟨v, h | h⟩ <;> rw [h] <;> simp [tmpsK]
 | const v => rfl
 | global g => rfl
 | func f => rfl
theorem DHyp.appP (H : DHyp P W ops s x ps) {i : Nat} {o : Oper} (ho : ops[i]? = some o) {y v : Operand} (hk : kdOf o.op = .app y v) : isRefA ((s i).ev y) = true ∧ isSlA ((s i).ev v) = true := by
 have := pureOL_mem H.pure o (by simpa using Array.mem_of_getElem? ho)
 rw [hk] at this
 simp only [pureK] at this
 rw [H.ev_stay ho (.inr (.inr ⟨v, .inl hk⟩)), H.ev_stay ho (.inr (.inr ⟨y, .inr hk⟩))] at this
 exact this
theorem DHyp.kind (H : DHyp P W ops s x ps) {i : Nat} {o : Oper} (ho : ops[i]? = some o) :
    ((s (i + 1)).h = (s i).h ∧ (s (i + 1)).nx = (s i).nx) ∨
    (∃ y id b, (kdOf o.op = .put y ∨ ∃ v, kdOf o.op = .app y v) ∧ idOf ((s i).ev y) = [id] ∧ ((s i).h id).lv = true ∧ (s (i + 1)).h = upd (s i).h id b ∧ (s (i + 1)).nx = (s i).nx) ∨
    (∃ e z, o.op = .alloc e ∧ guardA ops (s i) o = some true ∧ zeroA P e = some z ∧ z.el P e = true ∧ x i = .ptr (s i).nx 1 0 0 ∧ (s (i + 1)).h = upd (s i).h (s i).nx ⟨e, [z], true, false, true⟩ ∧ (s (i + 1)).nx = (s i).nx + 1) := by
  rcases H.run i o ho with ⟨hg, st1, h1, h2⟩ | ⟨hg, hx, h2⟩
  · rw [h2, (put_h ..).1, (put_h ..).2]
    have hw := ((drawOkD_parts H.ok).2.2.2 i o ho).1
    by_cases hc : (kdOf o.op).chg = true
    · cases hk : kdOf o.op with
      | put y =>
        have h1' : evalOp P (s i) o.op = some (x i, st1) := by
          unfold OpStep at h1
          split at h1
          · rename_i f args ts he; rw [he] at hk; cases f <;> simp [kdOf, isS] at hk
          · exact h1
        obtain ⟨id, b, e1, e2, e3, _⟩ := put_at hk (fun _ _ => rfl) (fun _ _ => rfl) h1'
        exact .inr (.inl ⟨y, id, b, .inl rfl, e1, e2, by rw [e3], by rw [e3]⟩)
      | app y v =>
        have h1' : evalOp P (s i) o.op = some (x i, st1) := by
          unfold OpStep at h1
          split at h1
          · rename_i f args ts he; rw [he] at hk; cases f <;> simp [kdOf, isS] at hk
          · exact h1
        obtain ⟨id, b, e1, e2, e3, _⟩ := app_at hk (H.appP ho hk) (fun _ _ => rfl) (fun _ _ => rfl) h1'
        exact .inr (.inl ⟨y, id, b, .inr ⟨v, rfl⟩, e1, e2, by rw [e3], by rw [e3]⟩)
      | new =>
        obtain ⟨e, he⟩ := kd_new hk
        rw [he] at h1
        have h1' : evalOp P (s i) (.alloc e) = some (x i, st1) := h1
        simp only [evalOp] at h1'
        obtain ⟨z, hz, h3⟩ := Option.bind_eq_some_iff.1 h1'
        split at h3
        · rename_i hel
          simp only [Option.some.injEq, Prod.mk.injEq] at h3
          refine .inr (.inr ⟨e, z, he, hg, hz, hel, h3.1.symm, ?_, ?_⟩)
          · rw [← h3.2]; rfl
          · rw [← h3.2]; rfl
        · cases h3
      | blind => rw [hk] at hc; cases hc
      | look y => rw [hk] at hc; cases hc
      | call as0 => rw [hk] at hc; cases hc
      | wild => rw [hk] at hc; cases hc
    · exact .inl (kd_keeps hw (by simpa using hc) (fun as0 hk => H.nw i o as0 ho hk) h1)
  · rw [h2, (put_h ..).1, (put_h ..).2]; exact .inl ⟨rfl, rfl⟩
theorem DHyp.nx_mono (H : DHyp P W ops s x ps) {i : Nat} : ∀ m, i ≤ m → m ≤ ops.size → (s i).nx ≤ (s m).nx := by
 intro m him
 induction him with
 | refl => intro _; exact Nat.le_refl _
 | @step m him ih =>
  intro hm
  show _ ≤ (s (m + 1)).nx
  have ho : ops[m]? = some ops[m] := Array.getElem?_eq_getElem (by omega)
  have := ih (by omega)
  rcases H.kind ho with ⟨_, h⟩ | ⟨_, _, _, _, _, _, _, h⟩ | ⟨_, _, _, _, _, _, _, _, h⟩ <;> omega
theorem DHyp.lv (H : DHyp P W ops s x ps) : ∀ m, m ≤ ops.size → ∀ id, (s m).nx ≤ id → ((s m).h id).lv = false := by
  intro m
  induction m with
  | zero => intro _; exact H.dead
  | succ m ih =>
    intro hm id hid
    have ho : ops[m]? = some ops[m] := Array.getElem?_eq_getElem (by omega)
    rcases H.kind ho with ⟨h1, h2⟩ | ⟨y, i, b, _, _, hl, h1, h2⟩ | ⟨e, z, _, _, _, _, _, h1, h2⟩
    · rw [h1]; exact ih (by omega) id (by omega)
    · rw [h1]
      by_cases h : id = i
      · subst h
        have := ih (by omega) id (by omega)
        rw [hl] at this; cases this
      · simp only [upd, h, if_false]; exact ih (by omega) id (by omega)
    · rw [h1]
      have : id ≠ (s m).nx := by omega
      simp only [upd, this, if_false]; exact ih (by omega) id (by omega)
theorem DHyp.new_end (H : DHyp P W ops s x ps) {i : Nat} {o : Oper} (ho : ops[i]? = some o) {e : Nat} (he : o.op = .alloc e) {d : Tmp} (hd : o.dst = some d) (hg : guardA ops (s i) o = some true) : (s ops.size).fr d = x i := by
 have hi := DHyp.lt_of ho
 have hk : kdOf o.op = .new := by rw [he]; rfl
 have h1 : (s ops.size).fr d = (s (i + 1)).fr d := by
  refine keep_fr H.run (fun j hij b hb hdd => ?_) _ (by omega) (Nat.le_refl _)
  have := ((drawOkD_parts H.ok).2.2.2 i o ho).2 d (by rw [hk, hd]; simp [tmpsK]) j (by omega) b hb hdd
  omega
 rw [h1, (oneStep_fr (H.run i o ho)).1, hd]
 simp [St.put, upd]
theorem DHyp.chg (H : DHyp P W ops s x ps) {i id : Nat} (hi : i < ops.size) (hne : Hof ops s i id ≠ Hof ops s (i + 1) id) (hdst : ∀ (i : Nat) (o : Oper), ops[i]? = some o → kdOf o.op = .new → o.dst.isSome = true) :
    ∃ o, ops[i]? = some o ∧ (kdOf o.op).chg = true ∧ id ∈ idsO (s ops.size) o := by
  have ho : ops[i]? = some ops[i] := Array.getElem?_eq_getElem hi
  refine ⟨_, ho, ?_⟩
  rcases H.kind ho with ⟨h1, h2⟩ | ⟨y, j, b, hk, hy, hl, h1, h2⟩ | ⟨e, z, he, hg, _, _, hx, h1, h2⟩
  · exact absurd (by simp only [Hof, h1, h2]) hne
  · refine ⟨by rcases hk with hk | ⟨v, hk⟩ <;> rw [hk] <;> rfl, ?_⟩
    have : id = j := by
      refine Classical.byContradiction fun h => hne ?_
      simp only [Hof, h1, h2, upd, h, if_false]
    rcases hk with hk | ⟨v, hk⟩
    · rw [idsO, hk, idsK, H.ev_stay ho (.inr (.inl hk)), hy, this]
      simp
    · rw [idsO, hk, idsK, H.ev_stay ho (.inr (.inr ⟨v, .inl hk⟩)), hy, this]
      simp
  · have hk : kdOf ops[i].op = .new := by rw [he]; rfl
    refine ⟨by rw [hk]; rfl, ?_⟩
    have : id = (s i).nx := by
      refine Classical.byContradiction fun h => hne ?_
      simp only [Hof, h1, h2, upd, h, if_false]
      by_cases hc : (s i).nx ≤ id ∧ id < (s ops.size).nx
      · rw [if_pos hc, if_pos ⟨by omega, hc.2⟩]
      · rw [if_neg hc, if_neg (by omega)]
    obtain ⟨d, hd⟩ := Option.isSome_iff_exists.1 (hdst i _ ho hk)
    have e1 : idsO (s ops.size) ops[i] = idOf ((s ops.size).fr d) := by simp only [idsO, hk, idsK, hd]
    rw [e1, H.new_end ho he hd hg, hx, this]
    simp [idOf]
theorem DHyp.step (H : DHyp P W ops s x ps) (hdst : ∀ (i : Nat) (o : Oper), ops[i]? = some o → kdOf o.op = .new → o.dst.isSome = true) {D : Nat → Prop} {st : St} (hD : Drawn2 ops s x D st) {i : Nat} {o : Oper} (ho : ops[i]? = some o) (hni : ¬ D i) (hready : ∀ k ∈ edgesB ops i, D k) :
    (∃ st', OneStep P W ops st o (x i) st' ∧ Drawn2 ops s x (fun j => D j ∨ j = i) st') ∨
    (∃ e z a, o.op = .alloc e ∧ guardA ops st o = some true ∧ zeroA P e = some z ∧ z.el P e = true ∧ x i = .ptr a 1 0 0 ∧ st.h a = Blk.dead ∧ (s 0).nx ≤ a ∧ a < st.nx ∧
      Drawn2 ops s x (fun j => D j ∨ j = i) (St.put { st with h := upd st.h a ⟨e, [z], true, false, true⟩ } o.dst (x i))) := by
  obtain ⟨c1, c2, c3, c4⟩ := drawOkD_parts H.ok
  have hi := DHyp.lt_of ho
  have hD' : ∀ j, j < ops.size → bget (befs ops) i j = true → D j := by
    intro j hj hb
    obtain ⟨k, hk, hc⟩ := c2 i j hi hj hb
    have hDk := hready k hk
    rcases hc with rfl | hc
    · exact hDk
    · exact before2 c1 c2 hD.shut hD.lt k hDk j hj hc
  have hord : ∀ j, j < ops.size → j ≠ i → (j < i → bget (befs ops) i j = true) → (i < j → bget (befs ops) j i = true) → (D j ↔ j < i) := by
    intro j hj hne h1 h2
    constructor
    · intro hDj
      rcases Nat.lt_or_ge j i with h | h
      · exact h
      · exact absurd (before2 c1 c2 hD.shut hD.lt j hDj i hi (h2 (by omega))) hni
    · intro hlt; exact hD' j hj (h1 hlt)
  have swap : ∀ a b : Oper, tmpClash ops a b = true → ∀ d, b.dst = some d → True := fun _ _ _ _ _ => trivial
  have hlook : ∀ t, t ∈ o.looksAt ops → st.fr t = (s i).fr t := by
    intro t ht
    refine (hD.fr t).unique (text_fr H.run i (by omega) t) fun j hw => ?_
    have hw' := hw
    simp only [writes] at hw'
    cases hb : ops[j]? with
    | none => rw [hb] at hw'; cases hw'
    | some b =>
      rw [hb] at hw'
      simp only [Option.bind_some] at hw'
      by_cases hji : j = i
      · subst hji
        exact ⟨fun h => absurd h hni, fun h => by omega⟩
      · refine hord j (DHyp.lt_of hb) hji (fun h => (c3 j i b o h hb ho).1 ?_) (fun h => (c3 i j o b h ho hb).1 ?_)
        · simp only [tmpClash, hw']; simp [ht]
        · simp only [tmpClash, hw']; simp [ht]
  have hev : ∀ y ∈ o.op.operands, st.ev y = (s i).ev y := by
    intro y hy
    cases y with
    | tmp t => exact hlook t (eval_tmp_looks hy rfl)
    | const v => rfl
    | global g => rfl
    | func f => rfl
  have hguard : guardA ops st o = guardA ops (s i) o := by
    unfold guardA
    cases hg : o.guard with
    | none => rfl
    | some p =>
      obtain ⟨j, want⟩ := p
      simp only
      cases hd : (ops[j]?).bind (·.dst) with
      | none => rfl
      | some d =>
        simp only
        rw [hlook d (by simp only [Oper.looksAt, List.mem_append, hg, hd]; exact .inr (by simp))]
  have hmo : ∀ id, (kdOf o.op).tch = true → id ∈ idsO (s ops.size) o → ∀ j, j < ops.size → j ≠ i → Hof ops s j id ≠ Hof ops s (j + 1) id → (D j ↔ j < i) := by
    intro id ht hid j hj hne hch
    obtain ⟨b, hb, hb1, hb2⟩ := H.chg hj hch hdst
    refine hord j hj hne (fun h => ?_) (fun h => ?_)
    · rcases (c3 j i b o h hb ho).2 (.inl ⟨hb1, ht⟩) with h' | h'
      · exact h'
      · exfalso
        have := apartL_mem H.apart _ h'
        simp only [apartAt, hb, ho] at this
        exact this id hb2 hid
    · rcases (c3 i j o b h ho hb).2 (.inr ⟨ht, hb1⟩) with h' | h'
      · exact h'
      · exfalso
        have := apartL_mem H.apart _ h'
        simp only [apartAt, hb, ho] at this
        exact this id hid hb2
  have hrd : ∀ id, (kdOf o.op).tch = true → id ∈ idsO (s ops.size) o → st.h id = Hof ops s i id := by
    intro id ht hid
    obtain ⟨k, hk, hk1, hk2⟩ := hD.mem id
    rw [hk1]
    have seg : ∀ a b, a ≤ b → b ≤ ops.size → (∀ j, a ≤ j → j < b → Hof ops s j id = Hof ops s (j + 1) id) → Hof ops s a id = Hof ops s b id := by
      intro a b hab
      induction hab with
      | refl => intro _ _; rfl
      | @step m hm ih =>
        intro hb hs
        rw [ih (by omega) (fun j h1 h2 => hs j h1 (by omega))]
        exact hs m hm (by omega)
    rcases Nat.le_total k i with h | h
    · refine seg k i h (by omega) fun j h1 h2 => Classical.byContradiction fun hne => ?_
      have a1 := hk2 j (by omega) hne
      have a2 := hmo id ht hid j (by omega) (by omega) hne
      have := a1.1 (a2.2 h2); omega
    · refine (seg i k h hk fun j h1 h2 => Classical.byContradiction fun hne => ?_).symm
      have a1 := hk2 j (by omega) hne
      by_cases hji : j = i
      · subst hji; exact hni (a1.2 h2)
      · have a2 := hmo id ht hid j (by omega) hji hne
        have := a2.1 (a1.2 h2); omega
  have hshut : ∀ j, (D j ∨ j = i) → ∀ k ∈ edgesB ops j, D k ∨ k = i := by
    rintro j (hj | rfl) k hk
    · exact .inl (hD.shut j hj k hk)
    · exact .inl (hready k hk)
  have hlt : ∀ j, (D j ∨ j = i) → j < ops.size := by
    rintro j (hj | rfl)
    · exact hD.lt j hj
    · exact hi
  have hfr : ∀ (st' : St), st'.fr = (st.put o.dst (x i)).fr → ∀ t, Holds ops s x (fun j => D j ∨ j = i) t (st'.fr t) := by
    intro st' g2 t
    rw [g2]
    by_cases hw : writes ops i t
    · have hd : o.dst = some t := by simpa [writes, ho] using hw
      refine .inl ⟨i, .inr rfl, hw, ?_, by rw [hd]; simp [St.put, upd]⟩
      rintro j (hj | rfl) hwj
      · have hb' := hwj
        simp only [writes] at hb'
        cases hb : ops[j]? with
        | none => rw [hb] at hb'; cases hb'
        | some b =>
          rw [hb] at hb'
          simp only [Option.bind_some] at hb'
          have hne : j ≠ i := fun e => hni (e ▸ hj)
          have := (hord j (DHyp.lt_of hb) hne (fun h => (c3 j i b o h hb ho).1 (by simp [tmpClash, hb', hd])) (fun h => (c3 i j o b h ho hb).1 (by simp [tmpClash, hb', hd]))).1 hj
          omega
      · exact Nat.le_refl _
    · have hv : (st.put o.dst (x i)).fr t = st.fr t := by
        cases hd : o.dst with
        | none => rfl
        | some d =>
          have hne : t ≠ d := fun e => hw (by simp [writes, ho, hd, e])
          simp [St.put, upd, hne]
      rw [hv]
      rcases hD.fr t with ⟨j, a1, a2, a3, a4⟩ | ⟨a1, a2⟩
      · refine .inl ⟨j, .inl a1, a2, ?_, a4⟩
        rintro j' (h | rfl) hw'
        · exact a3 j' h hw'
        · exact absurd hw' hw
      · refine .inr ⟨?_, a2⟩
        rintro j (h | rfl) hw'
        · exact a1 j h hw'
        · exact hw hw'
  have hmem : ∀ h' : Nat → Blk, (∀ id, Hof ops s i id ≠ Hof ops s (i + 1) id → h' id = Hof ops s (i + 1) id) → (∀ id, Hof ops s i id = Hof ops s (i + 1) id → h' id = st.h id) →
      ∀ id, ∃ k, k ≤ ops.size ∧ h' id = Hof ops s k id ∧ ∀ j, j < ops.size → Hof ops s j id ≠ Hof ops s (j + 1) id → ((D j ∨ j = i) ↔ j < k) := by
    intro h' g1 g2 id
    by_cases hc : Hof ops s i id = Hof ops s (i + 1) id
    · obtain ⟨k, hk, hk1, hk2⟩ := hD.mem id
      refine ⟨k, hk, (g2 id hc).trans hk1, fun j hj hne => ?_⟩
      have hji : j ≠ i := fun e => hne (e ▸ hc)
      rw [← hk2 j hj hne]
      exact ⟨fun h => h.elim (fun h => h) (fun e => absurd e hji), .inl⟩
    · refine ⟨i + 1, by omega, g1 id hc, fun j hj hne => ?_⟩
      by_cases hji : j = i
      · subst hji; exact ⟨fun _ => by omega, fun _ => .inr rfl⟩
      · obtain ⟨b, hb, hb1, hb2⟩ := H.chg hi hc hdst
        rw [ho] at hb; cases hb
        have ht : (kdOf o.op).tch = true := by
          cases hk : kdOf o.op <;> rw [hk] at hb1 <;> first | rfl | cases hb1
        have := hmo id ht hb2 j hj hji hne
        constructor
        · rintro (h | h)
          · have := this.1 h; omega
          · exact absurd h hji
        · intro h; exact .inl (this.2 (by omega))
  have hlive : ∀ id, ((s i).h id).lv = true → Hof ops s i id = (s i).h id ∧ id < (s i).nx := by
    intro id hl
    have : id < (s i).nx := by
      rcases Nat.lt_or_ge id (s i).nx with h | h
      · exact h
      · rw [H.lv i (by omega) id h] at hl; cases hl
    exact ⟨by simp only [Hof]; rw [if_neg (by omega)], this⟩
  have hN : (s (i + 1)).nx ≤ (s ops.size).nx := H.nx_mono _ (by omega) (Nat.le_refl _)
  have hsame : ∀ (st' : St), st'.fr = (st.put o.dst (x i)).fr → st'.h = st.h → st'.nx = st.nx → ((s (i + 1)).h = (s i).h ∧ (s (i + 1)).nx = (s i).nx) → Drawn2 ops s x (fun j => D j ∨ j = i) st' := by
    intro st' g1 g2 g3 g4
    have hno : ∀ id, Hof ops s i id = Hof ops s (i + 1) id := fun id => by simp only [Hof, g4.1, g4.2]
    exact ⟨hshut, hlt, hfr st' g1, by rw [g3]; exact hD.nx, hmem st'.h (fun id h => absurd (hno id) h) (fun id _ => by rw [g2])⟩
  rcases H.run i o ho with ⟨hg, st1, h1, h2⟩ | ⟨hg, hx, h2⟩
  · have hw := (c4 i o ho).1
    cases hk : kdOf o.op with
    | wild => rw [hk] at hw; cases hw
    | blind =>
      left
      have hs : isS o.op = false := kd_blind hk
      have h1' : evalOp P (s i) o.op = some (x i, st1) := by
        unfold OpStep at h1
        split at h1
        · rename_i f args ts he; rw [he] at hs; cases f <;> simp [isS] at hs
        · exact h1
      obtain ⟨k1, k2⟩ := evalOp_blind P (s i) st st1 (x i) o.op hs hev h1'
      have hstep : OpStep P W st o.op (x i) st := by
        unfold OpStep
        split
        · rename_i f args ts he; rw [he] at hs; cases f <;> simp [isS] at hs
        · exact k2
      refine ⟨st.put o.dst (x i), .inl ⟨by rw [hguard]; exact hg, st, hstep, rfl⟩, hsame _ rfl (put_h ..).1 (put_h ..).2 ?_⟩
      rw [h2, (put_h ..).1, (put_h ..).2, k1]; exact ⟨rfl, rfl⟩
    | look y =>
      left
      have h1' : evalOp P (s i) o.op = some (x i, st1) := by
        unfold OpStep at h1
        split at h1
        · rename_i f args ts he; rw [he] at hk; cases f <;> simp [kdOf, isS] at hk
        · exact h1
      have hids : idsO (s ops.size) o = idOf ((s i).ev y) := by simp only [idsO, hk, idsK, H.ev_stay ho (.inl hk)]
      have ht : (kdOf o.op).tch = true := by rw [hk]; rfl
      obtain ⟨_, _, hl⟩ := look_at hk (fun _ _ => rfl) (fun _ _ => rfl) h1'
      obtain ⟨k1, k2, _⟩ := look_at (st2 := st) hk hev (fun id hid => by rw [hrd id ht (by rw [hids]; exact hid), (hlive id (hl id hid)).1]) h1'
      have hstep : OpStep P W st o.op (x i) st := by
        unfold OpStep
        split
        · rename_i f args ts he; rw [he] at hk; cases f <;> simp [kdOf, isS] at hk
        · exact k2
      refine ⟨st.put o.dst (x i), .inl ⟨by rw [hguard]; exact hg, st, hstep, rfl⟩, hsame _ rfl (put_h ..).1 (put_h ..).2 ?_⟩
      rw [h2, (put_h ..).1, (put_h ..).2, k1]; exact ⟨rfl, rfl⟩
    | put y =>
      left
      have h1' : evalOp P (s i) o.op = some (x i, st1) := by
        unfold OpStep at h1
        split at h1
        · rename_i f args ts he; rw [he] at hk; cases f <;> simp [kdOf, isS] at hk
        · exact h1
      have hids : idsO (s ops.size) o = idOf ((s i).ev y) := by simp only [idsO, hk, idsK, H.ev_stay ho (.inr (.inl hk))]
      have ht : (kdOf o.op).tch = true := by rw [hk]; rfl
      obtain ⟨id0, b0, e1, e2, e3, _⟩ := put_at hk (fun _ _ => rfl) (fun _ _ => rfl) h1'
      obtain ⟨id, b, q1, q2, q3, q4⟩ := put_at (st2 := st) hk hev (fun id hid => by
        have : id = id0 := by rw [e1] at hid; simpa using hid
        subst this
        rw [hrd id ht (by rw [hids]; exact hid), (hlive id e2).1]) h1'
      have hstep : OpStep P W st o.op (x i) { st with h := upd st.h id b } := by
        unfold OpStep
        split
        · rename_i f args ts he; rw [he] at hk; cases f <;> simp [kdOf, isS] at hk
        · exact q4
      refine ⟨St.put { st with h := upd st.h id b } o.dst (x i), .inl ⟨by rw [hguard]; exact hg, _, hstep, rfl⟩, hshut, hlt, hfr _ (by cases o.dst <;> rfl), by rw [(put_h ..).2]; exact hD.nx, ?_⟩
      have hh1 : (s (i + 1)).h = upd (s i).h id b ∧ (s (i + 1)).nx = (s i).nx := by rw [h2, (put_h ..).1, (put_h ..).2, q3]; exact ⟨rfl, rfl⟩
      have hlid := (hlive id q2).2
      rw [(put_h ..).1]
      refine hmem _ (fun j hne => ?_) (fun j heq => ?_)
      · have : j = id := Classical.byContradiction fun h => hne (by simp only [Hof, hh1.1, hh1.2, upd, h, if_false])
        subst this
        simp only [Hof, hh1.1, hh1.2, upd, if_true]
        rw [if_neg (by omega)]
      · by_cases h : j = id
        · subst h
          have : st.h j = Hof ops s i j := hrd j ht (by rw [hids, q1]; simp)
          rw [this, heq]
          simp only [Hof, hh1.1, hh1.2, upd, if_true]
          rw [if_neg (by omega)]
        · simp only [upd, h, if_false]
    | app y v =>
      left
      have h1' : evalOp P (s i) o.op = some (x i, st1) := by
        unfold OpStep at h1
        split at h1
        · rename_i f args ts he; rw [he] at hk; cases f <;> simp [kdOf, isS] at hk
        · exact h1
      have hids : idsO (s ops.size) o = idOf ((s i).ev y) := by simp only [idsO, hk, idsK, H.ev_stay ho (.inr (.inr ⟨v, .inl hk⟩))]
      have ht : (kdOf o.op).tch = true := by rw [hk]; rfl
      obtain ⟨id0, b0, e1, e2, e3, _⟩ := app_at hk (H.appP ho hk) (fun _ _ => rfl) (fun _ _ => rfl) h1'
      obtain ⟨id, b, q1, q2, q3, q4⟩ := app_at (st2 := st) hk (H.appP ho hk) hev (fun id hid => by
        have : id = id0 := by rw [e1] at hid; simpa using hid
        subst this
        rw [hrd id ht (by rw [hids]; exact hid), (hlive id e2).1]) h1'
      have hstep : OpStep P W st o.op (x i) { st with h := upd st.h id b } := by
        unfold OpStep
        split
        · rename_i f args ts he; rw [he] at hk; cases f <;> simp [kdOf, isS] at hk
        · exact q4
      refine ⟨St.put { st with h := upd st.h id b } o.dst (x i), .inl ⟨by rw [hguard]; exact hg, _, hstep, rfl⟩, hshut, hlt, hfr _ (by cases o.dst <;> rfl), by rw [(put_h ..).2]; exact hD.nx, ?_⟩
      have hh1 : (s (i + 1)).h = upd (s i).h id b ∧ (s (i + 1)).nx = (s i).nx := by rw [h2, (put_h ..).1, (put_h ..).2, q3]; exact ⟨rfl, rfl⟩
      have hlid := (hlive id q2).2
      rw [(put_h ..).1]
      refine hmem _ (fun j hne => ?_) (fun j heq => ?_)
      · have : j = id := Classical.byContradiction fun h => hne (by simp only [Hof, hh1.1, hh1.2, upd, h, if_false])
        subst this
        simp only [Hof, hh1.1, hh1.2, upd, if_true]
        rw [if_neg (by omega)]
      · by_cases h : j = id
        · subst h
          have : st.h j = Hof ops s i j := hrd j ht (by rw [hids, q1]; simp)
          rw [this, heq]
          simp only [Hof, hh1.1, hh1.2, upd, if_true]
          rw [if_neg (by omega)]
        · simp only [upd, h, if_false]
    | call as0 =>
      left
      have hcl : ∃ g args ts, o.op = .call { callee := .value (.func g), args := args, argTypes := ts } ∧ as0 = args.toList := by
        unfold kdOf at hk
        split at hk <;> first | (cases hk; done) | (split at hk <;> cases hk; done) | skip
        rename_i g args ts he
        cases hk
        exact ⟨g, args, ts, he, rfl⟩
      obtain ⟨g, args, ts, he, rfl⟩ := hcl
      have hpu := pureOL_mem H.pure o (by simpa using Array.mem_of_getElem? ho)
      rw [hk] at hpu
      simp only [pureK] at hpu
      have hst : args.toList.map (s ops.size).ev = args.toList.map (s i).ev := by
        refine List.map_congr_left fun y hy => ?_
        cases y with
        | tmp t => exact tmp_op (H.stay ho (by rw [hk]; simp) (by rw [hk]; simp only [tmpsK, List.mem_filterMap]; exact ⟨.tmp t, hy, rfl⟩))
        | const v => rfl
        | global g => rfl
        | func f => rfl
      have hm : args.toList.map st.ev = args.toList.map (s i).ev := List.map_congr_left fun y hy => hev y (by rw [he]; simp [Op.operands, Call.operands]; exact .inr (by simpa using hy))
      rw [he] at h1
      obtain ⟨g', first, cap, w1, w2, w3, w4, w5⟩ := h1
      have w1' : AV.fn (.func g) [] [] = AV.fn (.func g') first cap := w1
      injection w1' with x1 x2 x3
      injection x1 with x1
      subst x1; subst x2; subst x3
      have hW : isW W (.call { callee := .value (.func g), args := args, argTypes := ts }) = false := by have := H.nw i o _ ho hk; rwa [he] at this
      have hin := w5 hW (by simp only [List.nil_append, List.append_nil]; rw [← hst]; exact hpu) st.h st.nx
      simp only [List.nil_append, List.append_nil] at hin
      rw [← hm] at hin
      have hstep : OpStep P W st o.op (x i) st := by
        rw [he]
        refine ⟨g, [], [], rfl, w2, ?_, fun _ => ⟨rfl, rfl⟩, fun _ _ h nx => ?_⟩
        · simp only [List.nil_append, List.append_nil]
          exact ⟨rfl, hin.2⟩
        · have := w5 hW (by simp only [List.nil_append, List.append_nil]; rw [← hst]; exact hpu) h nx
          simp only [List.nil_append, List.append_nil] at this ⊢
          rw [← hm] at this
          exact ⟨rfl, this.2⟩
      refine ⟨st.put o.dst (x i), .inl ⟨by rw [hguard]; exact hg, st, hstep, rfl⟩, hsame _ rfl (put_h ..).1 (put_h ..).2 ?_⟩
      rw [h2, (put_h ..).1, (put_h ..).2]; exact w4 hW
    | new =>
      right
      rcases H.kind ho with ⟨k1, k2⟩ | ⟨y, _, _, k1, _⟩ | ⟨e, z, he, _, hz, hel, hx, k1, k2⟩
      · exfalso
        obtain ⟨e, he⟩ := kd_new hk
        rw [he] at h1
        have h1' : evalOp P (s i) (.alloc e) = some (x i, st1) := h1
        simp only [evalOp] at h1'
        obtain ⟨z, hz, h3⟩ := Option.bind_eq_some_iff.1 h1'
        split at h3
        · simp only [Option.some.injEq, Prod.mk.injEq] at h3
          rw [h2, (put_h ..).2, ← h3.2] at k2
          simp [St.new] at k2
        · cases h3
      · rcases k1 with k1 | ⟨v, k1⟩ <;> rw [hk] at k1 <;> cases k1
      · have ht : (kdOf o.op).tch = true := by rw [hk]; rfl
        obtain ⟨d, hd⟩ := Option.isSome_iff_exists.1 (hdst i o ho hk)
        have hids : (s i).nx ∈ idsO (s ops.size) o := by
          have e1 : idsO (s ops.size) o = idOf ((s ops.size).fr d) := by simp only [idsO, hk, idsK, hd]
          rw [e1, H.new_end ho he hd hg, hx]
          simp [idOf]
        have h0 := H.nx_mono (i := 0) i (by omega) (by omega)
        have hdead : Hof ops s i (s i).nx = Blk.dead := by simp only [Hof]; rw [if_pos (by omega)]
        refine ⟨e, z, (s i).nx, he, by rw [hguard]; exact hg, hz, hel, hx, by rw [hrd _ ht hids, hdead], h0, by rw [hD.nx]; omega, hshut, hlt, hfr _ (by cases o.dst <;> rfl), by rw [(put_h ..).2]; exact hD.nx, ?_⟩
        rw [(put_h ..).1]
        refine hmem _ (fun j hne => ?_) (fun j heq => ?_)
        · have : j = (s i).nx := by
            refine Classical.byContradiction fun h => hne ?_
            simp only [Hof, k1, k2, upd, h, if_false]
            by_cases hc : (s i).nx ≤ j ∧ j < (s ops.size).nx
            · rw [if_pos hc, if_pos ⟨by omega, hc.2⟩]
            · rw [if_neg hc, if_neg (by omega)]
          subst this
          simp only [Hof, k1, k2, upd, if_true]
          rw [if_neg (by omega)]
        · by_cases h : j = (s i).nx
          · subst h
            rw [hdead] at heq
            simp only [Hof, k1, k2, upd, if_true] at heq
            rw [if_neg (by omega)] at heq
            simp [Blk.dead] at heq
          · simp only [upd, h, if_false]
  · left
    refine ⟨st.put o.dst (.tup []), .inr ⟨by rw [hguard]; exact hg, hx, rfl⟩, hsame _ (by rw [hx]) (put_h ..).1 (put_h ..).2 ?_⟩
    rw [h2, (put_h ..).1, (put_h ..).2]; exact ⟨rfl, rfl⟩
theorem DHyp.finish (H : DHyp P W ops s x ps) {D : Nat → Prop} {st : St} (hD : Drawn2 ops s x D st) (hall : ∀ i, i < ops.size → D i) : st = s ops.size := by
 have hf : st.fr = (s ops.size).fr := by
  funext t
  refine (hD.fr t).unique (text_fr H.run ops.size (Nat.le_refl _) t) fun i _ => ⟨hD.lt i, fun h => hall i h⟩
 have hh : st.h = (s ops.size).h := by
  funext id
  obtain ⟨k, hk, h1, h2⟩ := hD.mem id
  have seg : ∀ b, k ≤ b → b ≤ ops.size → Hof ops s k id = Hof ops s b id := by
   intro b hb
   induction hb with
   | refl => intro _; rfl
   | @step m hm ih =>
    intro hm'
    have hm'' : m + 1 ≤ ops.size := hm'
    have hkm : k ≤ m := hm
    rw [ih (by omega)]
    refine Classical.byContradiction fun hne => ?_
    have := (h2 m (by omega) hne).1 (hall m (by omega)); omega
  rw [h1, seg _ hk (Nat.le_refl _)]
  simp only [Hof]
  rw [if_neg (by omega)]
 cases hst : st with
 | mk fr h nx =>
  have hn := hD.nx
  rw [hst] at hf hh hn
  simp only at hf hh hn
  rw [hf, hh, hn]
end
section
variable {P : Program} {W : FuncId → Bool} {ops : Array Oper} {s : Nat → St} {x : Nat → AV} {ps : List (Nat × Nat)} {Q : Exit → Act → World → Prop} {n : Nat}
theorem new_at {E w0 : Env} {a : Nat} (hE : Ok P E) (ha : E.h a = Blk.dead) (hlt : a < E.nx) (h0 : w0.nx ≤ a) (hgo : Goes P w0 E) (c : Array Value) (e : Nat) (y : AV) (v : Value) (hr : rep P E y v) (hc : CellsAt c 0 (szT P e) [v])
    (hcl : y.el P e = true) (hsz : 1 * szT P e ≤ c.size) :
    let E' : Env := ⟨pushW E.w (.cells c e (0, 0)), E.I, upd E.m a ⟨E.w.heap.size, 0, 1⟩, upd E.h a ⟨e, [y], true, false, true⟩, E.nx⟩
    E.Le E' ∧ Ok P E' ∧ Goes P w0 E' := by
  intro E'
  have hLe : E.Le E' := by
    refine ⟨Nat.le_refl _, fun b hb => ⟨hb, pushW_old (hE.imm b hb)⟩, fun id hid => ?_, fun id hid n hn h1 h2 => ?_⟩
    · by_cases h : id = a
      · subst h; rw [ha]; simp [Blk.dead]
      · simp [E', upd, h]
    · by_cases h : id = a
      · subst h
        rw [ha] at hn
        simp [E', upd] at h2
        simp [Blk.dead] at hn
        omega
      · simp only [E', upd, h, if_false] at h1 h2 ⊢; exact ⟨h1, h2, by trivial, by trivial⟩
  have hmb : ∀ id, (E.h id).lv = true → (E.m id).b < E.w.heap.size := fun id h => by
    obtain ⟨c, vs, h1, _⟩ := (hE.blk id h).at_; exact lt_of_heap h1
  refine ⟨hLe, ⟨fun id hlv => ?_, fun i j hi hj hij => ?_, fun b hb => Nat.lt_of_lt_of_le (hE.imm b hb) (by simp [E', pushW]), hE.tab.le hLe⟩, ?_⟩
  · by_cases hid : id = a
    · subst hid
      refine ⟨by simpa [E'] using hlt, by simp [E', upd], by simp [E', upd], by simp [E', upd], by simpa [E', upd] using hcl, ?_, ⟨c, [v], ?_, ?_, ?_, ?_⟩⟩
      · simp only [E', upd, if_true]; exact fun h => Nat.lt_irrefl _ (hE.imm _ h)
      · simp only [E', upd, if_true]; exact pushW_new
      · simp only [E', upd, if_true]; exact repL_mono hLe _ _ (by simp [repL, hr])
      · simpa [E', upd] using hc
      · simpa [E', upd] using hsz
    · simp only [E', upd, hid, if_false] at hlv
      refine (hE.blk id hlv).move hLe (by simp [E', upd, hid]) (by simp [E', upd, hid]) (pushW_old (hmb id hlv)) (hE.blk id hlv).dark
  · by_cases h1 : i = a <;> by_cases h2 : j = a
    · rw [h1, h2]
    · simp only [E', upd, h1, h2, if_true, if_false] at hi hj hij
      exact absurd (hmb j hj) (by omega)
    · simp only [E', upd, h1, h2, if_true, if_false] at hi hj hij
      exact absurd (hmb i hi) (by omega)
    · simp only [E', upd, h1, h2, if_false] at hi hj hij
      exact hE.inj i j hi hj hij
  · refine ⟨hgo.os, hgo.tape, hgo.output, Nat.le_trans hgo.size (by simp [E', pushW]), fun b hb hno => ?_, fun id hlv c' hc' => ?_, fun id hlv => ?_, fun b hb => hgo.dark b hb, hgo.nx, fun id hid => ?_⟩
    · exact (pushW_old (Nat.lt_of_lt_of_le hb hgo.size)).trans (hgo.keep b hb hno)
    · obtain ⟨c2, k1, k2, k3⟩ := hgo.part id hlv c' hc'
      exact ⟨c2, (pushW_old (lt_of_heap k1)).trans k1, k2, k3⟩
    · by_cases hid : id = a
      · subst hid
        exact .inr ⟨by simp [E', upd]; exact hgo.size, .inl h0⟩
      · simp only [E', upd, hid, if_false, Env.lim] at hlv ⊢
        exact hgo.locs id hlv
    · have hid' : id ≠ a := by omega
      simp only [E', upd, hid', if_false]; exact hgo.grs id hid
theorem draw2_any (H : DHyp P W ops s x ps) (hdst : ∀ (i : Nat) (o : Oper), ops[i]? = some o → kdOf o.op = .new → o.dst.isSome = true) (hd : ∀ o ∈ ops, ∀ d, o.dst = some d → d < n) {w0 : Env} (hw0 : w0.nx = (s 0).nx)
    (hQ : ∀ a' E', Rel P E' (s ops.size) a' → a'.tmps.size = n → a'.defers = [] → w0.Le E' → Goes P w0 E' → Q .normal a' E'.w) : ∀ (fuel : Nat) (listed : Array Bool) (a : Act) (E : Env) (st : St), listed.size = ops.size →
    listed.toList.count false ≤ fuel → Rel P E st a → a.tmps.size = n → a.defers = [] → Ok P w0 → w0.Le E → Goes P w0 E → Drawn2 ops s x (Lis listed) st → wpAny P .any ops Q fuel listed a E.w := by
  intro fuel
  obtain ⟨c1, c2, c3, c4⟩ := drawOkD_parts H.ok
  have all2 : ∀ {listed : Array Bool}, listed.size = ops.size → Region.ready .any ops listed = [] → ∀ i, i < ops.size → Lis listed i := by
    intro listed hs h i
    induction i using Nat.strongRecOn with
    | _ i ih =>
      intro hi
      by_cases hl : Lis listed i
      · exact hl
      · have : i ∈ Region.ready .any ops listed := (mem_ready hs).2 ⟨hi, hl, fun k hk => ih k (c1 i hi k hk) (Nat.lt_trans (c1 i hi k hk) hi)⟩
        rw [h] at this; simp at this
  have done : ∀ (listed : Array Bool) (a : Act) (E : Env) (st : St), listed.size = ops.size → Region.ready .any ops listed = [] → Rel P E st a → a.tmps.size = n → a.defers = [] → w0.Le E → Goes P w0 E → Drawn2 ops s x (Lis listed) st → Q .normal a E.w := by
    intro listed a E st hs hr hR hn hdf hle hgo hD
    have := H.finish hD (all2 hs hr)
    subst this
    exact hQ a E hR hn hdf hle hgo
  induction fuel with
  | zero =>
    intro listed a E st hs hc hR hn hdf hok0 hle hgo hD
    have hr : Region.ready .any ops listed = [] := by
      rw [List.eq_nil_iff_forall_not_mem]
      intro i hi
      obtain ⟨h1, h2, _⟩ := (mem_ready hs).1 hi
      have h0 : listed.toList.count false = 0 := by omega
      rw [List.count_eq_zero] at h0
      refine h0 ?_
      unfold Lis at h2
      rw [Array.getD_eq_getD_getElem?, Array.getElem?_eq_getElem (by omega)] at h2
      have : listed[i] = false := by simpa using h2
      rw [← this]; exact Array.getElem_mem_toList _
    exact ⟨hr, done listed a E st hs hr hR hn hdf hle hgo hD⟩
  | succ fuel ih =>
    intro listed a E st hs hc hR hn hdf hok0 hle hgo hD
    refine ⟨fun hr => done listed a E st hs hr hR hn hdf hle hgo hD, fun i hi => ?_⟩
    obtain ⟨h1, h2, h3⟩ := (mem_ready hs).1 hi
    have ho : ops[i]? = some ops[i] := Array.getElem?_eq_getElem h1
    have hL : ∀ j, Lis (listed.setIfInBounds i true) j ↔ Lis listed j ∨ j = i := by
      intro j
      unfold Lis
      rw [Array.getD_eq_getD_getElem?, Array.getD_eq_getD_getElem?]
      by_cases hji : j = i
      · subst hji
        rw [Array.getElem?_setIfInBounds_self, if_pos (by omega)]
        simp
      · rw [Array.getElem?_setIfInBounds_ne (fun e => hji e.symm)]
        simp [hji]
    have hL' : (fun j => Lis listed j ∨ j = i) = Lis (listed.setIfInBounds i true) := by
      funext j; exact propext (hL j).symm
    have hcount : (listed.setIfInBounds i true).toList.count false ≤ fuel := by
      have hfalse : listed.toList[i]'(by simp; omega) = false := by
        unfold Lis at h2
        rw [Array.getD_eq_getD_getElem?, Array.getElem?_eq_getElem (by omega)] at h2
        simpa using h2
      rw [Array.toList_setIfInBounds, List.count_set (by simp; omega), hfalse]
      have e1 : (if (false == false) = true then 1 else 0) = 1 := rfl
      have e2 : (if (true == false) = true then 1 else 0) = 0 := rfl
      rw [e1, e2]; omega
    rcases H.step hdst hD ho h2 h3 with ⟨st', g1, g2⟩ | ⟨e, z, b, he, hg, hz, hel, hx, hdead, hb0, hbn, g2⟩
    · refine oneStep_sound ho hR (fun d hdd => by rw [hn]; exact hd _ (Array.mem_of_getElem? ho) d hdd) g1 _ fun a' E' k1 k2 k3 k4 k5 => ?_
      refine ih _ a' E' st' (by simpa using hs) hcount k1 (by rw [k2, hn]) (by rw [k3, hdf]) hok0 (hle.trans k4) (hgo.trans hok0 k5) ?_
      rw [← hL']; exact g2
    · obtain ⟨v, hv, rfl⟩ := zeroA_val hz
      have hrv := rep_ofVal (P := P) (E := E) v
      have hsz := el_size hrv hel
      obtain ⟨q1, q2, q3⟩ := new_at (w0 := w0) hR.ok (by rw [← hR.h]; exact hdead) (by rw [← hR.nx]; exact hbn) (by rw [hw0]; exact hb0) hgo v.cells e (ofVal v) v hrv (CellsAt.one v _ hsz) hel (by simp [hsz])
      obtain ⟨E', hE'⟩ : ∃ E' : Env, E' = ⟨pushW E.w (.cells v.cells e (0, 0)), E.I, upd E.m b ⟨E.w.heap.size, 0, 1⟩, upd E.h b ⟨e, [ofVal v], true, false, true⟩, E.nx⟩ := ⟨_, rfl⟩
      rw [← hE'] at q1 q2 q3
      have hrun : (execOp a.eval ops[i]).run P E.w = .ok (.value (.pointer (some ⟨E.w.heap.size, 0, none⟩))) E'.w := by
        unfold execOp
        rw [he, hE']
        simp [Instr.alloc, run_zero hv, newVar, run_newRow]
      unfold wpOp
      rw [ho]
      simp only [guardA_sound hR.fr hg, if_true]
      refine .inl ?_
      unfold Oper.wp
      rw [hrun]
      refine ih _ (a.put ops[i].dst (.pointer (some ⟨E.w.heap.size, 0, none⟩))) E' _ (by simpa using hs) hcount ⟨q2, ?_, ?_, ?_⟩ (by rw [(put_size ..).1, hn]) (by rw [(put_size ..).2, hdf]) hok0 (hle.trans q1) q3 (by rw [← hL']; exact g2)
      · rw [(put_h ..).1, hE']; simp only [hR.h]
      · rw [(put_h ..).2, hE']; exact hR.nx
      · refine rep_put (fun t => ?_) ?_ (fun d hdd => by rw [hn]; exact hd _ (Array.mem_of_getElem? ho) d hdd)
        · exact rep_mono q1 _ _ (hR.fr t)
        · rw [hx, hE']
          simp only [rep]
          exact ⟨by rw [← hR.nx]; exact hbn, by simp [upd], _, rfl, fun _ _ => by simp [upd]⟩
theorem reserve {E : Env} (hE : Ok P E) (N : Nat) (hN : E.nx ≤ N) :
    let E1 : Env := ⟨E.w, E.I, E.m, fun id => if E.nx ≤ id ∧ id < N then Blk.dead else E.h id, N⟩
    E.Le E1 ∧ Ok P E1 ∧ Goes P E E1 := by
  intro E1
  have old : ∀ id, id < E.nx → E1.h id = E.h id := fun id h => by simp only [E1]; rw [if_neg (by omega)]
  have lv : ∀ id, (E1.h id).lv = true → (E.h id).lv = true ∧ id < E.nx ∧ E1.h id = E.h id := by
    intro id h
    by_cases hc : E.nx ≤ id ∧ id < N
    · simp only [E1, hc, and_self, if_true, Blk.dead] at h; cases h
    · have e : E1.h id = E.h id := by simp only [E1]; rw [if_neg hc]
      rw [e] at h
      exact ⟨h, (hE.blk id h).lt, e⟩
  have hLe : E.Le E1 := ⟨hN, fun b hb => ⟨hb, rfl⟩, fun id hid => by rw [old id hid]; exact Nat.le_refl _, fun id hid n _ h1 h2 => by rw [old id hid] at h1 h2 ⊢; exact ⟨h1, h2, rfl, rfl⟩⟩
  refine ⟨hLe, ⟨fun id h => ?_, fun i j hi hj e => hE.inj i j (lv i hi).1 (lv j hj).1 e, hE.imm, hE.tab.le hLe⟩, ⟨rfl, rfl, rfl, Nat.le_refl _, fun _ _ _ => rfl, fun _ _ c h => ⟨c, h, rfl, fun _ _ => rfl⟩, fun id h => ?_, fun _ h => .inl h, hN, fun id hid => by rw [old id hid]⟩⟩
  · obtain ⟨h1, h2, h3⟩ := lv id h
    exact (hE.blk id h1).move hLe h3 rfl rfl (hE.blk id h1).dark
  · obtain ⟨h1, h2, h3⟩ := lv id h
    exact .inl ⟨h1, rfl, by rw [h3], by simp only [Env.lim, h3]; rfl⟩
theorem draw2 {E : Env} {a : Act} (H : DHyp P W ops s x ps) (hdst : ∀ (i : Nat) (o : Oper), ops[i]? = some o → kdOf o.op = .new → o.dst.isSome = true) (hd : ∀ o ∈ ops, ∀ d, o.dst = some d → d < n) {w0 : Env} (hok0 : Ok P w0) (hw0 : w0.nx = (s 0).nx) (hle0 : w0.Le E) (hgo0 : Goes P w0 E)
    (hR : Rel P E (s 0) a) (hn : a.tmps.size = n) (hdf : a.defers = [])
    (hQ : ∀ a' E', Rel P E' (s ops.size) a' → a'.tmps.size = n → a'.defers = [] → w0.Le E' → Goes P w0 E' → Q .normal a' E'.w) : wpAny P .any ops Q ops.size (Array.replicate ops.size false) a E.w := by
  have hN := H.nx_mono (i := 0) ops.size (Nat.zero_le _) (Nat.le_refl _)
  obtain ⟨r1, r2, r3⟩ := reserve hR.ok (s ops.size).nx (by rw [← hR.nx]; exact hN)
  have hno : ∀ i, ¬ Lis (Array.replicate ops.size false) i := by
    intro i hi
    unfold Lis at hi
    rw [Array.getD_eq_getD_getElem?, Array.getElem?_replicate] at hi
    split at hi <;> simp at hi
  refine draw2_any H hdst hd hw0 hQ ops.size (Array.replicate ops.size false) a ⟨E.w, E.I, E.m, fun id => if E.nx ≤ id ∧ id < (s ops.size).nx then Blk.dead else E.h id, (s ops.size).nx⟩
    ⟨(s 0).fr, Hof ops s 0, (s ops.size).nx⟩ (by simp) (by simp) ⟨r2, ?_, rfl, hR.fr.mono r1⟩ hn hdf hok0 (hle0.trans r1) (hgo0.trans hok0 r3) ?_
  · funext id
    simp only [Hof, hR.nx, hR.h]
  · exact ⟨fun j hj => absurd hj (hno j), fun j hj => absurd hj (hno j), fun t => .inr ⟨fun i hi => absurd hi (hno i), rfl⟩, rfl, fun id => ⟨0, Nat.zero_le _, rfl, fun i _ _ => ⟨fun h => absurd h (hno i), fun h => absurd h (by omega)⟩⟩⟩
end
def isLk : List (Nat × Nat) → Bool
 | (a, b) :: _ => a == b
 | [] => false
def sameL (h0 h : Nat → Blk) : List Nat → Prop
 | [] => True
 | i :: is => h i = h0 i ∧ sameL h0 h is
def floatK (P : Program) (h0 : Nat → Blk) (st : St) (dst : Option Tmp) (o : Op) : Prop :=
 match o with
 | .call { callee := .value (.func g), args := as0, argTypes := _ } => match dst with
  | some d => InOk P st g (as0.toList.map st.ev) (st.fr d) st
  | none => False
 | o => sameL h0 st.h (idsK st dst (kdOf o))
def lookAt (P : Program) (h0 : Nat → Blk) (st : St) (ops : Array Oper) (q : Nat × Nat) : Prop :=
 match ops[q.1]? with
 | some a => floatK P h0 st a.dst a.op
 | none => True
def lookL (P : Program) (h0 : Nat → Blk) (st : St) (ops : Array Oper) : List (Nat × Nat) → Prop
 | [] => True
 | q :: qs => lookAt P h0 st ops q ∧ lookL P h0 st ops qs
theorem sameL_mem {h0 h : Nat → Blk} : ∀ {is : List Nat}, sameL h0 h is → ∀ i ∈ is, h i = h0 i
  | [], _, _, hi => by cases hi
  | j :: is, hs, i, hi => by
    rcases List.mem_cons.1 hi with rfl | hi
    · exact hs.1
    · exact sameL_mem hs.2 i hi
theorem lookL_mem {P : Program} {h0 : Nat → Blk} {st : St} {ops : Array Oper} : ∀ {qs : List (Nat × Nat)}, lookL P h0 st ops qs → ∀ q ∈ qs, lookAt P h0 st ops q
  | [], _, _, hq => by cases hq
  | p :: qs, hs, q, hq => by
    rcases List.mem_cons.1 hq with rfl | hq
    · exact hs.1
    · exact lookL_mem hs.2 q hq
def isLook (o : Op) : Option Operand := match kdOf o with | .look y => some y | _ => none
def drawOkL (W : FuncId → Bool) (qs : List (Nat × Nat)) (ops : Array Oper) : Bool :=
 let B := befs ops
 let r := List.range ops.size
 (r.all fun j => (edgesB ops j).all fun k => decide (k < j)) &&
 (r.all fun j => r.all fun i => !(bget B j i) || (edgesB ops j).any fun k => k == i || bget B k i) &&
 (r.all fun j => (List.range j).all fun i => match ops[i]?, ops[j]? with
  | some a, some b => (!(tmpClash ops a b) || bget B j i) && (!((isW W a.op && isS b.op) || (isS a.op && isW W b.op)) || bget B j i || qs.contains (i, j) || qs.contains (j, i))
  | _, _ => true) &&
 (r.all fun j => (List.range j).all fun i => match ops[i]?, ops[j]? with | some a, some b => !(isW W a.op && isW W b.op) | _, _ => true) &&
 (qs.all fun q => match ops[q.1]? with
  | some a => !(isW W a.op) && ((match isLook a.op with
   | some (.tmp t) => r.all fun j => decide (j < q.1) || (match ops[j]? with | some b => !(b.dst == some t) | none => true)
   | _ => false) || (match a.op with
   | .call { callee := .value (.func _), args := as0, argTypes := _ } => decide (q.1 < q.2) && (match ops[q.2]? with | some b => isW W b.op | none => false) &&
     (match a.dst with
     | some d => r.all fun j => decide (j ≤ q.1) || (match ops[j]? with | some b => !(b.dst == some d) && (as0.toList.all fun y => match y with | .tmp t => !(b.dst == some t) | _ => true) | none => true)
     | none => false) && (as0.toList.all fun y => match y with | .tmp t => !(a.dst == some t) | _ => true)
   | _ => false))
  | none => false)
section
variable {P : Program} {W : FuncId → Bool} {ops : Array Oper} {s : Nat → St} {x : Nat → AV} {qs : List (Nat × Nat)}
theorem drawOkL_parts (h : drawOkL W qs ops = true) : (∀ j, j < ops.size → ∀ k ∈ edgesB ops j, k < j) ∧
    (∀ j i, j < ops.size → i < ops.size → bget (befs ops) j i = true → ∃ k ∈ edgesB ops j, k = i ∨ bget (befs ops) k i = true) ∧
    (∀ (i j : Nat) (a b : Oper), i < j → ops[i]? = some a → ops[j]? = some b → (tmpClash ops a b = true → bget (befs ops) j i = true) ∧
      ((isW W a.op = true ∧ isS b.op = true ∨ isS a.op = true ∧ isW W b.op = true) → bget (befs ops) j i = true ∨ (i, j) ∈ qs ∨ (j, i) ∈ qs)) ∧
    (∀ (i j : Nat) (a b : Oper), i < j → ops[i]? = some a → ops[j]? = some b → ¬ (isW W a.op = true ∧ isW W b.op = true)) ∧
    (∀ l w, (l, w) ∈ qs → ∃ (a : Oper), ops[l]? = some a ∧ isW W a.op = false ∧
      ((∃ t : Tmp, kdOf a.op = .look (.tmp t) ∧ ∀ j, l ≤ j → ∀ b, ops[j]? = some b → b.dst ≠ some t) ∨
      (∃ g as0 ts d b, a.op = .call { callee := .value (.func g), args := as0, argTypes := ts } ∧ a.dst = some d ∧ l < w ∧ ops[w]? = some b ∧ isW W b.op = true ∧
        (∀ j, l < j → ∀ b, ops[j]? = some b → b.dst ≠ some d) ∧ ∀ t : Tmp, Operand.tmp t ∈ as0.toList → ∀ j, l ≤ j → ∀ b, ops[j]? = some b → b.dst ≠ some t))) := by
  simp only [drawOkL, Bool.and_eq_true, List.all_eq_true, List.mem_range, decide_eq_true_eq] at h
  obtain ⟨⟨⟨⟨h1, h2⟩, h3⟩, h4⟩, h5⟩ := h
  have lt : ∀ {i : Nat} {a : Oper}, ops[i]? = some a → i < ops.size := fun {i a} ha => by
    rcases Nat.lt_or_ge i ops.size with h | h
    · exact h
    · rw [Array.getElem?_eq_none h] at ha; cases ha
  refine ⟨h1, fun j i hj hi hb => ?_, fun i j a b hij ha hb => ?_, fun i j a b hij ha hb hc => ?_, fun l w hq => ?_⟩
  · have := h2 j hj i hi
    rw [hb] at this
    simp only [Bool.not_true, Bool.false_or, List.any_eq_true, Bool.or_eq_true, beq_iff_eq] at this
    exact this
  · have := h3 j (lt hb) i hij
    rw [ha, hb] at this
    simp only [Bool.and_eq_true, Bool.or_eq_true, Bool.not_eq_true', List.contains_eq_mem, decide_eq_true_eq] at this
    obtain ⟨k1, k2⟩ := this
    refine ⟨fun hc => k1.resolve_left (by rw [hc]; simp), fun hc => ?_⟩
    rcases k2 with ((q | q) | q) | q
    · exfalso
      rcases hc with ⟨c1, c2⟩ | ⟨c1, c2⟩ <;> simp [c1, c2] at q
    · exact .inl q
    · exact .inr (.inl q)
    · exact .inr (.inr q)
  · have := h4 j (lt hb) i hij
    rw [ha, hb] at this
    simp [hc.1, hc.2] at this
  · have := h5 (l, w) hq
    simp only at this
    cases ha : ops[l]? with
    | none => rw [ha] at this; cases this
    | some a =>
      rw [ha] at this
      rw [Bool.and_eq_true, Bool.or_eq_true] at this
      obtain ⟨k1, k2⟩ := this
      refine ⟨a, rfl, by simpa using k1, ?_⟩
      rcases k2 with k2 | k2
      · left
        unfold isLook at k2
        cases hk : kdOf a.op with
        | look y =>
          rw [hk] at k2
          simp only at k2
          cases y with
          | tmp t =>
            simp only [List.all_eq_true, List.mem_range, Bool.or_eq_true, decide_eq_true_eq] at k2
            refine ⟨t, rfl, fun j hj b hb hd => ?_⟩
            have := k2 j (lt hb)
            rw [hb] at this
            simp only [hd, BEq.rfl, Bool.not_true, Bool.false_eq_true, or_false] at this
            omega
          | const v => cases k2
          | global g => cases k2
          | func f => cases k2
        | blind => rw [hk] at k2; cases k2
        | put y => rw [hk] at k2; cases k2
        | app y v => rw [hk] at k2; cases k2
        | new => rw [hk] at k2; cases k2
        | call as0 => rw [hk] at k2; cases k2
        | wild => rw [hk] at k2; cases k2
      · right
        split at k2
        · rename_i g as0 ts he
          simp only [Bool.and_eq_true, decide_eq_true_eq] at k2
          obtain ⟨⟨⟨q1, q2⟩, q3⟩, q4⟩ := k2
          cases hb : ops[w]? with
          | none => rw [hb] at q2; cases q2
          | some b =>
            rw [hb] at q2
            cases hd : a.dst with
            | none => rw [hd] at q3; cases q3
            | some d =>
              rw [hd] at q3 q4
              simp only [List.all_eq_true, List.mem_range, Bool.or_eq_true, decide_eq_true_eq] at q3 q4
              refine ⟨g, as0, ts, d, b, he, rfl, q1, rfl, q2, fun j hj b' hb' hd' => ?_, fun t ht j hj b' hb' hd' => ?_⟩
              · have := q3 j (lt hb')
                rw [hb'] at this
                simp [hd'] at this
                omega
              · rcases Nat.lt_or_ge l j with c | c
                · have := q3 j (lt hb')
                  rw [hb'] at this
                  rcases this with e | e
                  · omega
                  · simp only [Bool.and_eq_true, List.all_eq_true] at e
                    have := e.2 _ ht
                    simp [hd'] at this
                · obtain rfl : j = l := by omega
                  rw [ha] at hb'; cases hb'
                  have := q4 _ ht
                  rw [hd] at hd'; cases hd'
                  simp at this
        · cases k2
theorem two_ends (hok : drawOkL W qs ops = true) (hrun : RunF P W ops s x) {m : Nat} (hm : m ≤ ops.size) : ((s m).h = (s 0).h) ∨ ((s m).h = (s ops.size).h) := by
  obtain ⟨_, _, _, c4, _⟩ := drawOkL_parts hok
  by_cases hw : ∃ w o, w < m ∧ ops[w]? = some o ∧ isW W o.op = true
  · obtain ⟨w, o, h1, h2, h3⟩ := hw
    have := text_h hrun (k := m) (ops.size - m) (by omega) (fun i b hi1 hi2 hb => by
      cases hb' : isW W b.op with
      | false => rfl
      | true => exact absurd ⟨h3, hb'⟩ (c4 w i o b (by omega) h2 hb))
    rw [show m + (ops.size - m) = ops.size by omega] at this
    exact .inr this.1.symm
  · have := text_h hrun (k := 0) m (by omega) (fun i b hi1 hi2 hb => by
      cases hb' : isW W b.op with
      | false => rfl
      | true => exact absurd ⟨i, b, by omega, hb, hb'⟩ hw)
    rw [Nat.zero_add] at this
    exact .inl this.1
theorem drawn_stepL (hok : drawOkL W qs ops = true) (hlk : lookL P (s 0).h (s ops.size) ops qs) (hrun : RunF P W ops s x) {D : Nat → Prop} {st : St} (hD : Drawn ops W s x D st) {i : Nat} {o : Oper} (ho : ops[i]? = some o) (hni : ¬ D i) (hready : ∀ k ∈ edgesB ops i, D k) :
    ∃ st', OneStep P W ops st o (x i) st' ∧ Drawn ops W s x (fun j => D j ∨ j = i) st' := by
  obtain ⟨c1, c2, c3, c4, c5⟩ := drawOkL_parts hok
  have hi : i < ops.size := by
    rcases Nat.lt_or_ge i ops.size with h | h
    · exact h
    · rw [Array.getElem?_eq_none h] at ho; cases ho
  have hD' : ∀ j, j < ops.size → bget (befs ops) i j = true → D j := by
    intro j hj hb
    obtain ⟨k, hk, hc⟩ := c2 i j hi hj hb
    have hDk := hready k hk
    rcases hc with rfl | hc
    · exact hDk
    · exact before2 c1 c2 hD.shut hD.lt k hDk j hj hc
  have hord : ∀ j, j < ops.size → j ≠ i → (j < i → bget (befs ops) i j = true) → (i < j → bget (befs ops) j i = true) → (D j ↔ j < i) := by
    intro j hj hne h1 h2
    constructor
    · intro hDj
      rcases Nat.lt_or_ge j i with h | h
      · exact h
      · exact absurd (before2 c1 c2 hD.shut hD.lt j hDj i hi (h2 (by omega))) hni
    · intro hlt; exact hD' j hj (h1 hlt)
  have hordT : ∀ j b, ops[j]? = some b → (tmpClash ops b o = true ∧ tmpClash ops o b = true) → j ≠ i → (D j ↔ j < i) := fun j b hb hc hne =>
    hord j (DHyp.lt_of hb) hne (fun h => (c3 j i b o h hb ho).1 hc.1) (fun h => (c3 i j o b h ho hb).1 hc.2)
  have hlook : ∀ t, t ∈ o.looksAt ops → st.fr t = (s i).fr t := by
    intro t ht
    refine (hD.fr t).unique (text_fr hrun i (by omega) t) fun j hw => ?_
    have hw' := hw
    simp only [writes] at hw'
    cases hb : ops[j]? with
    | none => rw [hb] at hw'; cases hw'
    | some b =>
      rw [hb] at hw'
      simp only [Option.bind_some] at hw'
      by_cases hji : j = i
      · subst hji
        exact ⟨fun h => absurd h hni, fun h => by omega⟩
      · exact hordT j b hb ⟨by simp only [tmpClash, hw']; simp [ht], by simp only [tmpClash, hw']; simp [ht]⟩ hji
  have hev : ∀ y ∈ o.op.operands, st.ev y = (s i).ev y := by
    intro y hy
    cases y with
    | tmp t => exact hlook t (eval_tmp_looks hy rfl)
    | const v => rfl
    | global g => rfl
    | func f => rfl
  obtain ⟨k, hk, hm1, hm2, hm3⟩ := hD.mem
  have hWi : isS o.op = true → (∀ w, (i, w) ∉ qs) → ∀ j b, ops[j]? = some b → isW W b.op = true → j ≠ i → (D j ↔ j < i) := by
    intro hS hnq j b hb hw hne
    have hjq : ∀ k, (j, k) ∉ qs := fun k hq => by
      obtain ⟨a, ha, hwa, _⟩ := c5 j k hq
      rw [hb] at ha; cases ha
      rw [hw] at hwa; cases hwa
    refine hord j (DHyp.lt_of hb) hne (fun h => ?_) (fun h => ?_)
    · rcases (c3 j i b o h hb ho).2 (.inl ⟨hw, hS⟩) with q | q | q
      · exact q
      · exact absurd q (hjq _)
      · exact absurd q (hnq _)
    · rcases (c3 i j o b h ho hb).2 (.inr ⟨hS, hw⟩) with q | q | q
      · exact q
      · exact absurd q (hnq _)
      · exact absurd q (hjq _)
  have hmem : isS o.op = true → (∀ w, (i, w) ∉ qs) → st.h = (s i).h ∧ st.nx = (s i).nx := by
    intro hS hnq
    have hno : ∀ j b, min i k ≤ j → j < max i k → ops[j]? = some b → isW W b.op = false := by
      intro j b h1 h2 hb
      cases hw : isW W b.op with
      | false => rfl
      | true =>
        exfalso
        by_cases hji : j = i
        · subst hji
          rw [ho] at hb; cases hb
          have := hm3 j o ho hw
          exact hni (this.2 (by omega))
        · have a := hm3 j b hb hw
          have b' := hWi hS hnq j b hb hw hji
          by_cases hDj : D j
          · have := a.1 hDj; have := b'.1 hDj; omega
          · have : ¬ j < k := fun h => hDj (a.2 h)
            have : ¬ j < i := fun h => hDj (b'.2 h)
            omega
    rcases Nat.le_total i k with h | h
    · have := text_h hrun (k := i) (k - i) (by omega) (fun j b h1 h2 hb => hno j b (by omega) (by omega) hb)
      rw [show i + (k - i) = k by omega] at this
      exact ⟨hm1.trans this.1, hm2.trans this.2⟩
    · have := text_h hrun (k := k) (i - k) (by omega) (fun j b h1 h2 hb => hno j b (by omega) (by omega) hb)
      rw [show k + (i - k) = i by omega] at this
      exact ⟨hm1.trans this.1.symm, hm2.trans this.2.symm⟩
  have hguard : guardA ops st o = guardA ops (s i) o := by
    unfold guardA
    cases hg : o.guard with
    | none => rfl
    | some p =>
      obtain ⟨j, want⟩ := p
      simp only
      cases hd : (ops[j]?).bind (·.dst) with
      | none => rfl
      | some d =>
        simp only
        rw [hlook d (by simp only [Oper.looksAt, List.mem_append, hg, hd]; exact .inr (by simp))]
  have hstep : ∃ st', OneStep P W ops st o (x i) st' ∧ st'.fr = (st.put o.dst (x i)).fr ∧ (isS o.op = true → (∀ w, (i, w) ∉ qs) → st'.h = (s (i + 1)).h ∧ st'.nx = (s (i + 1)).nx) := by
    rcases hrun i o ho with ⟨hg, st1, h1, h2⟩ | ⟨hg, hx, h2⟩
    · by_cases hq : ∃ w, (i, w) ∈ qs
      · obtain ⟨w, hq⟩ := hq
        obtain ⟨o', ho', hwo, hcase⟩ := c5 i w hq
        rw [ho] at ho'; cases ho'
        rcases hcase with ⟨t, hkd, hno⟩ | ⟨g, as0, ts, d, b, he, hd, hlw, hb, hwb, hnd, hna⟩
        · skip
          have h1' : evalOp P (s i) o.op = some (x i, st1) := by
            unfold OpStep at h1
            split at h1
            · rename_i f args ts he; rw [he] at hkd; cases f <;> simp [kdOf, isS] at hkd
            · exact h1
          have hst : (s ops.size).fr t = (s i).fr t := keep_fr hrun hno _ (by omega) (Nat.le_refl _)
          have hsame : ∀ id ∈ idOf ((s i).ev (.tmp t)), (s ops.size).h id = (s 0).h id := by
            intro id hid
            have := lookL_mem hlk (i, w) hq
            simp only [lookAt, ho] at this
            have this : sameL (s 0).h (s ops.size).h (idsK (s ops.size) o.dst (kdOf o.op)) := by
              unfold floatK at this
              split at this
              · rename_i he; rw [he] at hkd; simp [kdOf] at hkd
              · exact this
            refine sameL_mem this id ?_
            rw [hkd, idsK]
            have e : (s ops.size).ev (.tmp t) = (s i).ev (.tmp t) := tmp_op hst
            rw [e]; exact hid
          have hh : ∀ id ∈ idOf ((s i).ev (.tmp t)), st.h id = (s i).h id := by
            intro id hid
            have e := hsame id hid
            rw [hm1]
            rcases two_ends hok hrun hk with a | a <;> rcases two_ends hok hrun (m := i) (by omega) with b | b <;> rw [a, b]
            · exact e.symm
            · exact e
          obtain ⟨_, k2, _⟩ := look_at (st2 := st) hkd hev hh h1'
          have hos : OpStep P W st o.op (x i) st := by
            unfold OpStep
            split
            · rename_i f args ts he; rw [he] at hkd; cases f <;> simp [kdOf, isS] at hkd
            · exact k2
          exact ⟨st.put o.dst (x i), .inl ⟨by rw [hguard]; exact hg, st, hos, rfl⟩, rfl, fun _ hnq => absurd hq (hnq w)⟩
        · have hws : w < ops.size := DHyp.lt_of hb
          have only : ∀ j o', ops[j]? = some o' → isW W o'.op = true → j = w := fun j o' hj hw' => by
            rcases Nat.lt_trichotomy j w with h | h | h
            · exact absurd ⟨hw', hwb⟩ (c4 j w o' b h hj hb)
            · exact h
            · exact absurd ⟨hwb, hw'⟩ (c4 w j b o' h hb hj)
          have hkw := hm3 w b hb hwb
          by_cases hDw : D w
          · have hkl := hkw.1 hDw
            have ht := text_h hrun (k := k) (ops.size - k) (by omega) (fun j o' h1 h2 hj => by
              cases hw' : isW W o'.op with
              | false => rfl
              | true => have := only j o' hj hw'; omega)
            rw [show k + (ops.size - k) = ops.size by omega] at ht
            have e1 : st.h = (s ops.size).h := hm1.trans ht.1.symm
            have e2 : st.nx = (s ops.size).nx := hm2.trans ht.2.symm
            have hfl := lookL_mem hlk (i, w) hq
            simp only [lookAt, ho] at hfl
            rw [hd, he] at hfl
            simp only [floatK] at hfl
            have hxd : (s ops.size).fr d = x i := by
              have h1 : (s ops.size).fr d = (s (i + 1)).fr d := keep_fr hrun (fun j hj b' hb' => hnd j (by omega) b' hb') _ (by omega) (Nat.le_refl _)
              rw [h1, (oneStep_fr (hrun i o ho)).1, hd]
              simp [St.put, upd]
            have hargs : as0.toList.map (s ops.size).ev = as0.toList.map st.ev := List.map_congr_left fun y hy => by
              have e3 : st.ev y = (s i).ev y := hev y (by rw [he]; simp [Op.operands, Call.operands]; exact .inr (by simpa using hy))
              rw [e3]
              cases y with
              | tmp t => exact tmp_op (keep_fr hrun (hna t hy) _ (by omega) (Nat.le_refl _))
              | const v => rfl
              | global g => rfl
              | func f => rfl
            rw [hargs, hxd] at hfl
            have hin := callStep_fr st.fr hfl
            have hst := withFr_eq (st := s ops.size) (st2 := st) e1 e2
            rw [← hst] at hin
            have hos : OpStep P W st o.op (x i) st := by
              rw [he] at h1 ⊢
              obtain ⟨g', first, cap, w1, w2, w3, w4, w5⟩ := h1
              have w1' : AV.fn (.func g) [] [] = AV.fn (.func g') first cap := w1
              injection w1' with x1 x2 x3
              injection x1 with x1
              subst x1; subst x2; subst x3
              have hm : as0.toList.map st.ev = as0.toList.map (s i).ev := List.map_congr_left fun y hy => hev y (by rw [he]; simp [Op.operands, Call.operands]; exact .inr (by simpa using hy))
              refine ⟨g, [], [], rfl, w2, by simpa using hin, fun _ => ⟨rfl, rfl⟩, fun hw hp h nx => ?_⟩
              have := w5 hw (by simp only [List.nil_append, List.append_nil] at hp ⊢; rw [← hm]; exact hp) h nx
              simp only [List.nil_append, List.append_nil] at this ⊢
              rw [← hm] at this
              exact callStep_fr st.fr this
            exact ⟨st.put o.dst (x i), .inl ⟨by rw [hguard]; exact hg, st, hos, rfl⟩, rfl, fun _ hnq => absurd hq (hnq w)⟩
          · have hkl : k ≤ w := by
              rcases Nat.lt_or_ge w k with h | h
              · exact absurd (hkw.2 h) hDw
              · exact h
            have t1 := text_h hrun (k := 0) k (by omega) (fun j o' h1 h2 hj => by
              cases hw' : isW W o'.op with
              | false => rfl
              | true => have := only j o' hj hw'; omega)
            have t2 := text_h hrun (k := 0) i (by omega) (fun j o' h1 h2 hj => by
              cases hw' : isW W o'.op with
              | false => rfl
              | true => have := only j o' hj hw'; omega)
            rw [Nat.zero_add] at t1 t2
            obtain ⟨st2, k1, k2, k3, k4⟩ := opStep_congr h1 hev (fun _ => ⟨hm1.trans (t1.1.trans t2.1.symm), hm2.trans (t1.2.trans t2.2.symm)⟩)
            exact ⟨st2.put o.dst (x i), .inl ⟨by rw [hguard]; exact hg, st2, k1, rfl⟩, by cases o.dst <;> simp [St.put, k2], fun _ hnq => absurd hq (hnq w)⟩
      · have hnq : ∀ w, (i, w) ∉ qs := fun w h => hq ⟨w, h⟩
        obtain ⟨st2, k1, k2, k3, k4⟩ := opStep_congr h1 hev (fun hS => hmem hS hnq)
        refine ⟨st2.put o.dst (x i), .inl ⟨by rw [hguard]; exact hg, st2, k1, rfl⟩, ?_, fun hS _ => ?_⟩
        · cases o.dst <;> simp [St.put, k2]
        · rw [(put_h ..).1, (put_h ..).2, h2, (put_h ..).1, (put_h ..).2]; exact k3 hS
    · refine ⟨st.put o.dst (.tup []), .inr ⟨by rw [hguard]; exact hg, hx, rfl⟩, by rw [hx], fun hS hnq => ?_⟩
      rw [(put_h ..).1, (put_h ..).2, h2, (put_h ..).1, (put_h ..).2]; exact hmem hS hnq
  obtain ⟨st', g1, g2, g3⟩ := hstep
  refine ⟨st', g1, ⟨?_, ?_, ?_, ?_⟩⟩
  · rintro j (hj | rfl) k hk
    · exact .inl (hD.shut j hj k hk)
    · exact .inl (hready k hk)
  · rintro j (hj | rfl)
    · exact hD.lt j hj
    · exact hi
  · intro t
    rw [g2]
    by_cases hw : writes ops i t
    · have hd : o.dst = some t := by simpa [writes, ho] using hw
      refine .inl ⟨i, .inr rfl, hw, ?_, by rw [hd]; simp [St.put, upd]⟩
      rintro j (hj | rfl) hwj
      · have hb' := hwj
        simp only [writes] at hb'
        cases hb : ops[j]? with
        | none => rw [hb] at hb'; cases hb'
        | some b =>
          rw [hb] at hb'
          simp only [Option.bind_some] at hb'
          have hne : j ≠ i := fun e => hni (e ▸ hj)
          have := (hordT j b hb ⟨by simp [tmpClash, hb', hd], by simp [tmpClash, hb', hd]⟩ hne).1 hj
          omega
      · exact Nat.le_refl _
    · have hv : (st.put o.dst (x i)).fr t = st.fr t := by
        cases hd : o.dst with
        | none => rfl
        | some d =>
          have hne : t ≠ d := fun e => hw (by simp [writes, ho, hd, e])
          simp [St.put, upd, hne]
      rw [hv]
      rcases hD.fr t with ⟨j, a1, a2, a3, a4⟩ | ⟨a1, a2⟩
      · refine .inl ⟨j, .inl a1, a2, ?_, a4⟩
        rintro j' (h | rfl) hw'
        · exact a3 j' h hw'
        · exact absurd hw' hw
      · refine .inr ⟨?_, a2⟩
        rintro j (h | rfl) hw'
        · exact a1 j h hw'
        · exact hw hw'
  · by_cases hwi : isW W o.op = true
    · have hS := isW_isS hwi
      have hnq : ∀ w, (i, w) ∉ qs := fun w hq => by
        obtain ⟨a, ha, hwa, _⟩ := c5 i w hq
        rw [ho] at ha; cases ha
        rw [hwi] at hwa; cases hwa
      obtain ⟨e1, e2⟩ := g3 hS hnq
      refine ⟨i + 1, by omega, e1, e2, fun j b hb hw => ?_⟩
      by_cases hji : j = i
      · subst hji; exact ⟨fun _ => by omega, fun _ => .inr rfl⟩
      · have := hWi hS hnq j b hb hw hji
        constructor
        · rintro (h | h)
          · have := this.1 h; omega
          · exact absurd h hji
        · intro h; exact .inl (this.2 (by omega))
    · have hwi' : isW W o.op = false := by simpa using hwi
      have hsame : st'.h = st.h ∧ st'.nx = st.nx := (oneStep_fr g1).2 hwi'
      refine ⟨k, hk, hsame.1.trans hm1, hsame.2.trans hm2, fun j b hb hw => ?_⟩
      have hji : j ≠ i := by
        rintro rfl
        rw [ho] at hb; cases hb
        exact hwi hw
      rw [← hm3 j b hb hw]
      exact ⟨fun h => h.elim id (fun e => absurd e hji), .inl⟩
end
inductive Ex where
 | normal | exit (id : Nat) | ret
def Ex.to : Ex → Exit
 | .normal => .normal
 | .exit id => .exit id
 | .ret => .ret
def opK (P : Program) (W : FuncId → Bool) (st : St) (dst : Option Tmp) (o : Op) (K : St → Prop) : Prop :=
 match o with
 | .call { callee := .value f, args := args, argTypes := ts } => ∃ x st', ValCall P W st (.call { callee := .value f, args := args, argTypes := ts }) f args x st' ∧ K (st'.put dst x)
 | o => match evalOp P st o with
  | some p => K (p.2.put dst p.1)
  | none => False
def wpo (P : Program) (W : FuncId → Bool) (ops : Array Oper) (o : Oper) (st : St) (K : St → Prop) : Prop :=
 match guardA ops st o with
 | some g => (g = true → opK P W st o.dst o.op K) ∧ (g = false → K (st.put o.dst (.tup [])))
 | none => False
def wpos (P : Program) (W : FuncId → Bool) (ops : Array Oper) : List Oper → St → (St → Prop) → Prop
 | [], st, K => K st
 | o :: os, st, K => wpo P W ops o st fun st' => wpos P W ops os st' K
def Lfp (F : (St → Prop) → St → Prop) (st : St) : Prop := ∀ J : St → Prop, (∀ st, F J st → J st) → J st
def Ex.thenK (K : St → Prop) (Q : Ex → St → Prop) : Ex → St → Prop
 | .normal, st => K st
 | e, st => Q e st
def Ex.inB (id : Nat) (Q : Ex → St → Prop) : Ex → St → Prop
 | .exit i, st => if i = id then Q .normal st else Q (.exit i) st
 | e, st => Q e st
structure WP where
 w : FuncId → Bool
 d : Nat → Option (List (Nat × Nat))
def noH : Nat → Blk := fun _ => Blk.dead
def lh (d : Option (List (Nat × Nat))) (st : St) : Nat → Blk :=
 match d with
 | some ps => if isLk ps then st.h else noH
 | none => noH
def dOk (P : Program) (d : Option (List (Nat × Nat))) (ops : Array Oper) (h0 : Nat → Blk) (st : St) : Prop :=
 match d with
 | none => True
 | some ps => if isLk ps then lookL P h0 st ops ps.tail else apartL st ops ps ∧ pureOL st ops.toList
def wpc (P : Program) (W : WP) : Code → St → (Ex → St → Prop) → Prop
 | .skip, st, Q => Q .normal st
 | .label _, st, Q => Q .normal st
 | .region id ops _, st, Q => wpos P W.w ops ops.toList st fun st' => dOk P (W.d id) ops (lh (W.d id) st) st' ∧ Q .normal st'
 | .seq a b, st, Q => wpc P W a st (Ex.thenK (fun st' => wpc P W b st' Q) Q)
 | .cond c a b, st, Q => match st.ev c with
  | .bool t => (t = true → wpc P W a st Q) ∧ (t = false → wpc P W b st Q)
  | _ => False
 | .block id c, st, Q => wpc P W c st (Ex.inB id Q)
 | .loop c, st, Q => Lfp (fun J st => wpc P W c st (Ex.thenK J Q)) st
 | .exit id, st, Q => Q (.exit id) st
 | .ret, st, Q => Q .ret st
 | .scope c, st, Q => wpc P W c st Q
 | _, _, _ => False
theorem opK_mono {P : Program} {W : FuncId → Bool} {st : St} {dst : Option Tmp} {o : Op} {K K' : St → Prop} (hK : ∀ st, K st → K' st) (h : opK P W st dst o K) : opK P W st dst o K' := by
  unfold opK at h ⊢
  split at h
  · obtain ⟨x, st', h1, h2⟩ := h; exact ⟨x, st', h1, hK _ h2⟩
  · split at h
    · exact hK _ h
    · cases h
theorem wpos_mono {P : Program} {W : FuncId → Bool} {ops : Array Oper} : ∀ {os : List Oper} {st : St} {K K' : St → Prop}, (∀ st, K st → K' st) → wpos P W ops os st K → wpos P W ops os st K'
 | [], _, _, _, hK, h => hK _ h
 | o :: os, st, K, K', hK, h => by
  simp only [wpos, wpo] at h ⊢
  cases hg : guardA ops st o with
  | none => rw [hg] at h; exact h.elim
  | some g => rw [hg] at h; exact ⟨fun hg => opK_mono (fun st h => wpos_mono hK h) (h.1 hg), fun hg => wpos_mono hK (h.2 hg)⟩
theorem Lfp.mono {F G : (St → Prop) → St → Prop} (h : ∀ J st, F J st → G J st) {st : St} (hl : Lfp F st) : Lfp G st := fun J hJ => hl J fun st hf => hJ st (h J st hf)
theorem wpc_mono {P : Program} {W : WP} : ∀ (c : Code) {st : St} {Q Q' : Ex → St → Prop}, (∀ e st, Q e st → Q' e st) → wpc P W c st Q → wpc P W c st Q'
  | .skip, _, _, _, hQ, h => hQ _ _ h
  | .label _, _, _, _, hQ, h => hQ _ _ h
  | .region _ ops _, _, _, _, hQ, h => wpos_mono (fun st h => ⟨h.1, hQ _ st h.2⟩) h
  | .seq a b, st, Q, Q', hQ, h => by
    simp only [wpc] at h ⊢
    refine wpc_mono a (fun e st' h => ?_) h
    cases e with
    | normal => exact wpc_mono b hQ h
    | exit id => exact hQ _ _ h
    | ret => exact hQ _ _ h
  | .cond c a b, st, Q, Q', hQ, h => by
    simp only [wpc] at h ⊢
    split at h
    · rename_i t ht; exact ⟨fun e => wpc_mono a hQ (h.1 e), fun e => wpc_mono b hQ (h.2 e)⟩
    · cases h
  | .block id c, st, Q, Q', hQ, h => by
    simp only [wpc] at h ⊢
    refine wpc_mono c (fun e st' h => ?_) h
    cases e with
    | normal => exact hQ _ _ h
    | exit i => simp only [Ex.inB] at h ⊢; split <;> rename_i hi <;> simp only [hi, if_true, if_false] at h <;> exact hQ _ _ h
    | ret => exact hQ _ _ h
  | .loop c, st, Q, Q', hQ, h => by
    simp only [wpc] at h ⊢
    refine h.mono fun J st h => wpc_mono c (fun e st' h => ?_) h
    cases e with
    | normal => exact h
    | exit i => exact hQ _ _ h
    | ret => exact hQ _ _ h
  | .exit id, _, _, _, hQ, h => hQ _ _ h
  | .ret, _, _, _, hQ, h => hQ _ _ h
  | .scope c, _, _, _, hQ, h => by simp only [wpc] at h ⊢; exact wpc_mono c hQ h
  | .goto _, _, _, _, _, h => by simp [wpc] at h
  | .refuse _, _, _, _, _, h => by simp [wpc] at h
  | .rangeFunc .., _, _, _, _, h => by simp [wpc] at h
def callsOk (W : FuncId → Bool) (ops : Array Oper) : Bool := ops.all fun o => match kdOf o.op with | .call _ => !isW W o.op | .new => o.dst.isSome | _ => true
def codeOk (W : WP) (n : Nat) : Code → Bool
 | .region id ops draw => (ops.all fun o => match o.dst with | some d => decide (d < n) | none => true) && (!draw || match W.d id with | none => drawOk W.w ops | some ps => if isLk ps then drawOkL W.w ps.tail ops else drawOkD ps ops && callsOk W.w ops)
 | .seq a b => codeOk W n a && codeOk W n b
 | .cond _ a b => codeOk W n a && codeOk W n b
 | .block _ c => codeOk W n c
 | .loop c => codeOk W n c
 | .scope c => codeOk W n c
 | _ => true
theorem opK_step {P : Program} {W : FuncId → Bool} {st : St} {dst : Option Tmp} {o : Op} {K : St → Prop} (h : opK P W st dst o K) : ∃ x st', OpStep P W st o x st' ∧ K (st'.put dst x) := by
  unfold opK at h
  split at h
  · exact h
  · rename_i o' hne
    split at h
    · rename_i p hp
      refine ⟨p.1, p.2, ?_, h⟩
      unfold OpStep
      split
      · rename_i f args ts; exact absurd rfl (hne f args ts)
      · exact hp
    · cases h
theorem wpos_run {P : Program} {W : FuncId → Bool} {ops : Array Oper} : ∀ (os : List Oper) (k : Nat) (st : St) (K : St → Prop), ops.toList.drop k = os → wpos P W ops os st K → ∃ st2, Run P W ops (List.range' k os.length) st st2 ∧ K st2
  | [], k, st, K, _, h => ⟨st, .nil st, h⟩
  | o :: os, k, st, K, hd, h => by
    have ho : ops[k]? = some o := by
      have : ops.toList[k]? = some o := by
        have := congrArg (·[0]?) hd
        simpa using this
      simpa using this
    have hd' : ops.toList.drop (k + 1) = os := by
      have := congrArg (List.drop 1) hd
      simpa [List.drop_drop, Nat.add_comm] using this
    simp only [wpos, wpo] at h
    cases hg : guardA ops st o with
    | none => rw [hg] at h; exact h.elim
    | some g =>
      rw [hg] at h
      cases g with
      | true =>
        obtain ⟨x, st1, h1, h2⟩ := opK_step (h.1 rfl)
        obtain ⟨st2, h3, h4⟩ := wpos_run os (k + 1) _ K hd' h2
        exact ⟨st2, by rw [List.length_cons, List.range'_succ]; exact .cons ho (.inl ⟨hg, st1, h1, rfl⟩) h3, h4⟩
      | false =>
        obtain ⟨st2, h3, h4⟩ := wpos_run os (k + 1) _ K hd' (h.2 rfl)
        exact ⟨st2, by rw [List.length_cons, List.range'_succ]; exact .cons ho (.inr ⟨hg, rfl, rfl⟩) h3, h4⟩
def QR (P : Program) (n : Nat) (Q : Ex → St → Prop) (E : Env) : Exit → Act → World → Prop := fun e a' w' =>
 ∃ x st' E', e = Ex.to x ∧ Q x st' ∧ w' = E'.w ∧ Rel P E' st' a' ∧ a'.tmps.size = n ∧ a'.defers = [] ∧ E.Le E' ∧ Goes P E E'
theorem QR.back {P : Program} {n : Nat} {Q : Ex → St → Prop} {E E1 : Env} (hE : Ok P E) (hle : E.Le E1) (hgo : Goes P E E1) {e : Exit} {a : Act} {w : World} (h : QR P n Q E1 e a w) : QR P n Q E e a w := by
 obtain ⟨x, st', E', h1, h2, h3, h4, h5, h6, h7, h8⟩ := h
 exact ⟨x, st', E', h1, h2, h3, h4, h5, h6, hle.trans h7, hgo.trans hE h8⟩
theorem wpc_sound {P : Program} {W : WP} {n : Nat} (hm : P.follows .mixedOrders = true) : ∀ (c : Code), codeOk W n c = true → ∀ (st : St) (Q : Ex → St → Prop) (a : Act) (E : Env), wpc P W c st Q → Rel P E st a → a.tmps.size = n → a.defers = [] → c.wp P (QR P n Q E) a E.w
  | .skip, _, st, Q, a, E, h, hR, hn, hd => wp_skip ⟨.normal, st, E, rfl, h, rfl, hR, hn, hd, .refl E, .refl P E⟩
  | .label _, _, st, Q, a, E, h, hR, hn, hd => wp_label ⟨.normal, st, E, rfl, h, rfl, hR, hn, hd, .refl E, .refl P E⟩
  | .exit id, _, st, Q, a, E, h, hR, hn, hd => wp_exit ⟨.exit id, st, E, rfl, h, rfl, hR, hn, hd, .refl E, .refl P E⟩
  | .ret, _, st, Q, a, E, h, hR, hn, hd => wp_ret ⟨.ret, st, E, rfl, h, rfl, hR, hn, hd, .refl E, .refl P E⟩
  | .region id ops draw, hok, st, Q, a, E, h, hR, hn, hd => by
    simp only [codeOk, Bool.and_eq_true] at hok
    have hdst : ∀ o ∈ ops, ∀ d, o.dst = some d → d < n := by
      intro o ho d hd'
      have := Array.all_eq_true_iff_forall_mem.1 hok.1 o ho
      rw [hd'] at this; simpa using this
    simp only [wpc] at h
    obtain ⟨st2, hrun, hq⟩ := wpos_run ops.toList 0 st _ (by simp) h
    have hlen : ops.toList.length = ops.size := by simp
    rw [hlen] at hrun
    cases draw with
    | false =>
      refine wp_region ?_
      rw [List.range_eq_range']
      exact run_sound hdst _ st st2 E a hrun hR hn fun a' E' k1 k2 k3 k4 k5 => ⟨.normal, st2, E', rfl, hq.2, rfl, k1, k2, by rw [k3, hd], k4, k5⟩
    | true =>
      obtain ⟨s, x, e1, e2, h3⟩ := hrun.toF
      rw [Nat.zero_add] at e2
      have hF : RunF P W.w ops s x := fun i o ho => h3 i o (Nat.zero_le _) (by
        rcases Nat.lt_or_ge i ops.size with h | h
        · omega
        · rw [Array.getElem?_eq_none h] at ho; cases ho) ho
      refine wp_region_any hm ?_
      obtain ⟨d1, d2, d3⟩ := drew_env hR.ok
      cases hds : W.d id with
      | none =>
        have hdr : drawOk W.w ops = true := by have := hok.2; rw [hds] at this; simpa using this
        refine draw_any (w0 := E) hdr hF hdst (fun a' E' k1 k2 k3 k4 k5 => ?_) ops.size (Array.replicate ops.size false) a ⟨drewW E.w, E.I, E.m, E.h, E.nx⟩ st (by simp) (by simp) ⟨d2, hR.h, hR.nx, hR.fr.mono d1⟩ hn hd hR.ok d1 d3 ?_
        · exact ⟨.normal, st2, E', rfl, hq.2, rfl, by rw [← e2]; exact k1, k2, k3, k4, k5⟩
        · have hno : ∀ i, ¬ Lis (Array.replicate ops.size false) i := by
            intro i hi
            unfold Lis at hi
            rw [Array.getD_eq_getD_getElem?, Array.getElem?_replicate] at hi
            split at hi <;> simp at hi
          exact ⟨fun j hj => absurd hj (hno j), fun j hj => absurd hj (hno j), fun t => .inr ⟨fun i hi => absurd hi (hno i), by rw [e1]⟩, 0, Nat.zero_le _, by rw [e1], by rw [e1], fun i o _ _ => ⟨fun h => absurd h (hno i), fun h => absurd h (by omega)⟩⟩
      | some ps =>
        have hok2 := hok.2
        rw [hds] at hok2
        simp only [Bool.not_true, Bool.false_or] at hok2
        have hq1 := hq.1
        rw [hds] at hq1
        by_cases hlk : isLk ps = true
        · simp only [hlk, if_true] at hok2
          simp only [dOk, lh, hlk, if_true] at hq1
          have hno : ∀ i, ¬ Lis (Array.replicate ops.size false) i := by
            intro i hi
            unfold Lis at hi
            rw [Array.getD_eq_getD_getElem?, Array.getElem?_replicate] at hi
            split at hi <;> simp at hi
          refine draw_anyG (w0 := E) (drawOkL_parts hok2).1 hF (fun _ _ hD _ _ ho hni hr => drawn_stepL hok2 (by rw [e1, e2]; exact hq1) hF hD ho hni hr) hdst (fun a' E' k1 k2 k3 k4 k5 => ?_) ops.size (Array.replicate ops.size false) a ⟨drewW E.w, E.I, E.m, E.h, E.nx⟩ st (by simp) (by simp) ⟨d2, hR.h, hR.nx, hR.fr.mono d1⟩ hn hd hR.ok d1 d3 ?_
          · exact ⟨.normal, st2, E', rfl, hq.2, rfl, by rw [← e2]; exact k1, k2, k3, k4, k5⟩
          · exact ⟨fun j hj => absurd hj (hno j), fun j hj => absurd hj (hno j), fun t => .inr ⟨fun i hi => absurd hi (hno i), by rw [e1]⟩, 0, Nat.zero_le _, by rw [e1], by rw [e1], fun i o _ _ => ⟨fun h => absurd h (hno i), fun h => absurd h (by omega)⟩⟩
        simp only [hlk, Bool.false_eq_true, if_false, Bool.and_eq_true] at hok2
        simp only [dOk, hlk, Bool.false_eq_true, if_false] at hq1
        have hca : ∀ (i : Nat) (o : Oper), ops[i]? = some o → (match kdOf o.op with | .call _ => !isW W.w o.op | .new => o.dst.isSome | _ => true) = true := fun i o ho =>
          Array.all_eq_true_iff_forall_mem.1 hok2.2 o (Array.mem_of_getElem? ho)
        have H : DHyp P W.w ops s x ps := ⟨hok2.1, hF, by rw [e2]; exact hq1.1, by rw [e2]; exact hq1.2, fun id hid => by
            rw [e1] at hid ⊢
            cases hl : (st.h id).lv with
            | false => rfl
            | true =>
              have hb := (hR.ok.blk id (by rw [← hR.h]; exact hl)).lt
              rw [← hR.nx] at hb; omega, fun i o as0 ho hk => by have := hca i o ho; rw [hk] at this; simpa using this⟩
        refine draw2 (w0 := E) (E := ⟨drewW E.w, E.I, E.m, E.h, E.nx⟩) H (fun i o ho hk => by have := hca i o ho; rw [hk] at this; simpa using this) hdst hR.ok (by rw [e1]; exact hR.nx.symm) d1 d3 (by rw [e1]; exact ⟨d2, hR.h, hR.nx, hR.fr.mono d1⟩) hn hd (fun a' E' k1 k2 k3 k4 k5 => ?_)
        exact ⟨.normal, st2, E', rfl, hq.2, rfl, by rw [← e2]; exact k1, k2, k3, k4, k5⟩
  | .seq c1 c2, hok, st, Q, a, E, h, hR, hn, hd => by
    simp only [codeOk, Bool.and_eq_true] at hok
    simp only [wpc] at h
    refine wp_seq (wp_mono (wpc_sound hm c1 hok.1 st _ a E h hR hn hd) fun e a' w' hq => ?_)
    obtain ⟨x, st', E', rfl, h2, rfl, h4, h5, h6, h7, h8⟩ := hq
    cases x with
    | normal => exact wp_mono (wpc_sound hm c2 hok.2 st' Q a' E' h2 h4 h5 h6) fun e a' w' hq => hq.back hR.ok h7 h8
    | exit id => exact ⟨.exit id, st', E', rfl, h2, rfl, h4, h5, h6, h7, h8⟩
    | ret => exact ⟨.ret, st', E', rfl, h2, rfl, h4, h5, h6, h7, h8⟩
  | .cond c x y, hok, st, Q, a, E, h, hR, hn, hd => by
    simp only [codeOk, Bool.and_eq_true] at hok
    simp only [wpc] at h
    split at h
    · rename_i t ht
      have hc := rep_ev hR.fr c
      rw [ht] at hc
      refine wp_cond_split (rep_bool hc) (fun e => wpc_sound hm x hok.1 st Q a E (h.1 e) hR hn hd) (fun e => wpc_sound hm y hok.2 st Q a E (h.2 e) hR hn hd)
    · cases h
  | .block id c, hok, st, Q, a, E, h, hR, hn, hd => by
    simp only [codeOk] at hok
    simp only [wpc] at h
    refine wp_block (wp_mono (wpc_sound hm c hok st _ a E h hR hn hd) fun e a' w' hq => ?_)
    obtain ⟨x, st', E', rfl, h2, rfl, h4, h5, h6, h7, h8⟩ := hq
    cases x with
    | normal => exact ⟨.normal, st', E', rfl, h2, rfl, h4, h5, h6, h7, h8⟩
    | ret => exact ⟨.ret, st', E', rfl, h2, rfl, h4, h5, h6, h7, h8⟩
    | exit i =>
      simp only [Ex.inB] at h2
      simp only [Ex.to, Exit.inBlock]
      split
      · rename_i hi; rw [if_pos hi] at h2; exact ⟨.normal, st', E', rfl, h2, rfl, h4, h5, h6, h7, h8⟩
      · rename_i hi; rw [if_neg hi] at h2; exact ⟨.exit i, st', E', rfl, h2, rfl, h4, h5, h6, h7, h8⟩
  | .scope c, hok, st, Q, a, E, h, hR, hn, hd => by
    simp only [codeOk] at hok
    simp only [wpc] at h
    refine wp_scope_straight (wp_mono (wpc_sound hm c hok st _ a E h hR hn hd) fun e a' w' hq => ?_)
    obtain ⟨x, st', E', rfl, h2, rfl, h4, h5, h6, h7, h8⟩ := hq
    cases x with
    | normal => exact ⟨.normal, st', E', rfl, h2, rfl, h4, h5, h6, h7, h8⟩
    | ret => exact ⟨.ret, st', E', rfl, h2, rfl, h4, h5, h6, h7, h8⟩
    | exit i => exact ⟨.exit i, st', E', rfl, h2, rfl, h4, h5, h6, h7, h8⟩
  | .loop c, hok, st, Q, a, E, h, hR, hn, hd => by
    simp only [codeOk] at hok
    simp only [wpc] at h
    have key := h (fun st => ∀ (a : Act) (E1 : Env), Rel P E1 st a → a.tmps.size = n → a.defers = [] → E.Le E1 → Goes P E E1 → ∀ (b : Frame) (k : List Item) (cs : List Frame),
      ∃ e a' w', QR P n Q E e a' w' ∧ Arrives P (lone (b.at a (.code c :: .inLoop c :: k)) cs E1.w) b k cs e a' w') (fun st hst => by
        intro a E1 hR1 hn1 hd1 hle hgo b k cs
        obtain ⟨e, a', w', hq, harr⟩ := wpc_sound hm c hok st _ a E1 hst hR1 hn1 hd1 b (.inLoop c :: k) cs
        obtain ⟨x, st', E', rfl, h2, rfl, h4, h5, h6, h7, h8⟩ := hq
        cases x with
        | normal =>
          obtain ⟨e2, a2, w2, hq2, harr2⟩ := h2 a' E' h4 h5 h6 (hle.trans h7) (hgo.trans hR.ok h8) b k cs
          exact ⟨e2, a2, w2, hq2, .of_steps (Steps.trans harr (.one step_inLoop)) harr2⟩
        | exit id => exact ⟨_, a', E'.w, ⟨.exit id, st', E', rfl, h2, rfl, h4, h5, h6, hle.trans h7, hgo.trans hR.ok h8⟩, .pass (x := .inLoop c) rfl (fun _ _ => .inl (by simp [Ex.to])) harr⟩
        | ret => exact ⟨_, a', E'.w, ⟨.ret, st', E', rfl, h2, rfl, h4, h5, h6, hle.trans h7, hgo.trans hR.ok h8⟩, .pass (x := .inLoop c) rfl (fun _ _ => .inl (by simp [Ex.to])) harr⟩)
    intro b k cs
    obtain ⟨e, a', w', hq, harr⟩ := key a E hR hn hd (.refl E) (.refl P E) b k cs
    exact ⟨e, a', w', hq, .of_steps (.one step_loop) harr⟩
  | .goto _, _, _, _, _, _, h, _, _, _ => by simp [wpc] at h
  | .refuse _, _, _, _, _, _, h, _, _, _ => by simp [wpc] at h
  | .rangeFunc .., _, _, _, _, _, h, _, _, _ => by simp [wpc] at h
def st00 : St := ⟨fun _ => .undef, fun _ => Blk.dead, 0⟩
def stIn (args : List AV) : St := { (matL false args st00).2 with fr := fun i => (matL false args st00).1.getD i .undef }
def resA (P : Program) (st : St) : ResultVar → Option AV
 | .tmp t => some (st.fr t)
 | .cell a t => if okT P t then loadA P st t (st.fr a) else none
def resL (P : Program) (st : St) : List ResultVar → Option (List AV)
 | [] => some []
 | r :: rs => (resA P st r).bind fun v => (resL P st rs).bind fun vs => some (v :: vs)
def resV (P : Program) (st : St) (rs : List ResultVar) : Option AV :=
 (resL P st rs).bind fun vs => match vs with
  | [v] => some v
  | vs => some (.tup vs)
def Post (P : Program) (fn : Func) (n0 : Nat) (fl md : Bool) (r : AV) (outs : List (List AV)) (e : Ex) (st : St) : Prop :=
 (match e with | .exit _ => False | _ => True) ∧ ∃ v, resV P st fn.results.toList = some v ∧ ∃ ids, (if md = true then ownA st 8 v = some (r, ids) ∧ ids.Nodup else snapA st 8 v = some (r, ids) ∧ ∀ i ∈ ids, n0 ≤ i) ∧
  (outs = [] ∨ fl = true ∧ outs.length = n0 ∧ ∀ k, k < n0 → (st.h k).lv = true ∧ outs[k]? = some (st.h k).xs ∧ AV.pureL (st.h k).xs = true)
theorem resL_sound {P : Program} {E : Env} {st : St} {a : Act} (hR : Rel P E st a) : ∀ (rs : List ResultVar) (vs : List AV), resL P st rs = some vs →
    ∃ us, (∀ g : ResultVar → Sem Value, (∀ t, g (.tmp t) = pure (a.tmps.getD t undef)) → (∀ x t, g (.cell x t) = do loadVar t (← asAddr (a.tmps.getD x undef))) → (rs.mapM g).run P E.w = .ok us E.w) ∧ repL P E vs us
  | [], vs, h => by simp only [resL, Option.some.injEq] at h; subst h; exact ⟨[], fun g _ _ => by simp, by simp [repL]⟩
  | r :: rs, vs, h => by
    simp only [resL] at h
    obtain ⟨v, hv, h⟩ := Option.bind_eq_some_iff.1 h
    obtain ⟨ws, hw, h⟩ := Option.bind_eq_some_iff.1 h
    cases h
    obtain ⟨us, h1, h2⟩ := resL_sound hR rs ws hw
    cases r with
    | tmp t =>
      simp only [resA, Option.some.injEq] at hv
      refine ⟨a.tmps.getD t undef :: us, fun g g1 g2 => ?_, by simp only [repL]; exact ⟨_, _, rfl, by rw [← hv]; exact hR.fr t, h2⟩⟩
      simp only [List.mapM_cons, Sem.run_bind, g1, Sem.run_pure, Result.andThen_ok, h1 g g1 g2]
    | cell x t =>
      simp only [resA] at hv
      split at hv
      · rename_i hok
        obtain ⟨u, k1, k2⟩ := load_sound hR.ok hR.h hok hv (hR.fr x)
        refine ⟨u :: us, fun g g1 g2 => ?_, by simp only [repL]; exact ⟨_, _, rfl, k2, h2⟩⟩
        have hptr : ∃ ad, a.tmps.getD x undef = .pointer (some ad) := by
          have hx := hR.fr x
          unfold loadA at hv
          split at hv
          · rename_i q1 q2 q3 hq
            rw [hq] at hx; simp only [rep] at hx
            obtain ⟨b, off, c, fz, u, hu, _⟩ := hx; exact ⟨_, hu⟩
          · rename_i q0 q1 q2 q3 hq
            rw [hq] at hx; simp only [rep] at hx
            obtain ⟨_, _, ad, hu, _⟩ := hx; exact ⟨_, hu⟩
          · cases hv
        obtain ⟨ad, had⟩ := hptr
        rw [had] at k1
        have hl : (loadVar t ad).run P E.w = .ok u E.w := by simpa [Instr.loadAt, Instr.sureAddr] using k1
        simp only [List.mapM_cons, Sem.run_bind, g2, had, asAddr, Sem.run_pure, Result.andThen_ok, hl, h1 g g1 g2]
      · cases hv
theorem resV_sound {P : Program} {E : Env} {st : St} {a : Act} {fn : Func} {v : AV} (hR : Rel P E st a) (h : resV P st fn.results.toList = some v) : ∃ u, (results fn a.tmps).run P E.w = .ok u E.w ∧ rep P E v u := by
  unfold resV at h
  obtain ⟨vs, hv, h⟩ := Option.bind_eq_some_iff.1 h
  obtain ⟨us, h1, h2⟩ := resL_sound hR _ _ hv
  refine ⟨if hs : us.toArray.size = 1 then us.toArray[0] else .tuple us.toArray, ?_, ?_⟩
  · unfold results
    rw [Array.mapM_eq_mapM_toList]
    simp only [Sem.run_bind, Sem.run_map]
    rw [h1 _ (fun _ => rfl) (fun _ _ => rfl)]
    rfl
  · split at h
    · rename_i x
      cases h
      simp only [repL] at h2
      obtain ⟨u, us', rfl, h3, rfl⟩ := h2
      simpa using h3
    · rename_i hne
      cases h
      have hl : ¬ us.toArray.size = 1 := by
        intro hs
        have := repL_length h2
        have hs' : us.length = 1 := by simpa using hs
        rw [hs'] at this
        match vs, this with
        | [y], _ => exact hne y rfl
      rw [dif_neg hl]
      simp only [rep]; exact ⟨us, rfl, h2⟩
theorem goes_frm {P : Program} {E0 E : Env} {L : List OLoc} {w0 : World} (hw : E0.w = w0) (hE0 : Ok P E0) (hg : Goes P E0 E) (hold : ∀ id, (E0.h id).lv = true → ∃ o ∈ L, E0.m id = o.l ∧ (E0.h id).t = o.t ∧ (E0.h id).xs.length = o.n ∧ (E0.h id).gr = false)
    (hL : ∀ o ∈ L, ∃ c, w0.heap[o.l.b]? = some (.cells c o.t (0, 0))) (hnd : (L.map (·.l.b)).Nodup) : Frm P w0 E.w L := by
  subst hw
  have huniq : ∀ o ∈ L, ∀ o' ∈ L, o.l.b = o'.l.b → o = o' := by
    intro o ho o' ho' e
    obtain ⟨i, hi⟩ := List.getElem?_of_mem ho
    obtain ⟨j, hj⟩ := List.getElem?_of_mem ho'
    have hi' : (L.map (·.l.b))[i]? = some o.l.b := by rw [List.getElem?_map, hi]; rfl
    have hj' : (L.map (·.l.b))[j]? = some o.l.b := by rw [List.getElem?_map, hj, e]; rfl
    have hij : i = j := by
      have hil : i < (L.map (·.l.b)).length := by
        rcases Nat.lt_or_ge i (L.map (·.l.b)).length with h | h
        · exact h
        · rw [List.getElem?_eq_none h] at hi'; cases hi'
      exact (List.getElem?_inj hil hnd).1 (hi'.trans hj'.symm)
    subst hij
    rw [hi] at hj; cases hj; rfl
  refine ⟨hg.os, hg.tape, hg.output, hg.size, fun b hb hn => hg.keep b hb fun id hid e => ?_, fun o ho c hc => ?_⟩
  · obtain ⟨o, ho, h1, _⟩ := hold id hid
    exact hn o ho (by rw [← h1]; exact e)
  · by_cases hm : ∃ id, (E0.h id).lv = true ∧ (E0.m id).b = o.l.b
    · obtain ⟨id, hid, hb⟩ := hm
      obtain ⟨o', ho', h1, h2, h3, h4⟩ := hold id hid
      have := huniq o' ho' o ho (by rw [← h1]; exact hb)
      subst this
      obtain ⟨c', p1, p2, p3⟩ := hg.part id hid c (by rw [h1, h2]; exact hc)
      rw [h1, h2] at p1 p3
      have hlim : E0.lim id = o'.n := by simp [Env.lim, h4, h3]
      rw [hlim] at p3
      exact ⟨c', p1, p2, p3⟩
    · refine ⟨c, (hg.keep o.l.b (lt_of_heap hc) fun id hid e => hm ⟨id, hid, e⟩).trans hc, rfl, fun _ _ => rfl⟩
mutual
theorem ownR_heap {P : Program} {E : Env} : ∀ (x : AV) (v : Value) (L : List OLoc), ownR P E x v L → ∀ o ∈ L, ∃ c, E.w.heap[o.l.b]? = some (.cells c o.t (0, 0))
  | .own t xs sp ex, v, L, h, o, ho => by
    simp only [ownR] at h
    obtain ⟨l, L1, L2, vs, us, c, ad, rfl, _, _, _, _, _, _, h8, h9, h10, _⟩ := h
    simp only [List.mem_cons, List.mem_append] at ho
    rcases ho with rfl | ho | ho
    · exact ⟨c, h10⟩
    · exact ownRL_heap xs vs L1 h8 o ho
    · exact ownRL_heap sp us L2 h9 o ho
  | .agg cs, v, L, h, o, ho => by simp only [ownR] at h; obtain ⟨vs, _, h2⟩ := h; exact ownRL_heap cs vs L h2 o ho
  | .tup cs, v, L, h, o, ho => by simp only [ownR] at h; obtain ⟨vs, _, h2⟩ := h; exact ownRL_heap cs vs L h2 o ho
  | .undef, v, L, h, o, ho => by simp only [ownR] at h; subst h; simp at ho
  | .bool b, v, L, h, o, ho => by simp only [ownR] at h; rw [h.1] at ho; simp at ho
  | .int k n, v, L, h, o, ho => by simp only [ownR] at h; rw [h.1] at ho; simp at ho
  | .str s, v, L, h, o, ho => by simp only [ownR] at h; rw [h.1] at ho; simp at ho
  | .nil, v, L, h, o, ho => by simp only [ownR] at h; rw [h.1] at ho; simp at ho
  | .sl t xs sp ex, v, L, h, o, ho => by simp only [ownR] at h; rw [h.1] at ho; simp at ho
  | .cptr t x j, v, L, h, o, ho => by simp only [ownR] at h; rw [h.1] at ho; simp at ho
  | .fn f a b, v, L, h, o, ho => by simp only [ownR] at h; rw [h.1] at ho; simp at ho
  | .ref .., v, L, h, o, ho => by simp [ownR] at h
  | .ptr .., v, L, h, o, ho => by simp [ownR] at h
theorem ownRL_heap {P : Program} {E : Env} : ∀ (xs : List AV) (vs : List Value) (L : List OLoc), ownRL P E xs vs L → ∀ o ∈ L, ∃ c, E.w.heap[o.l.b]? = some (.cells c o.t (0, 0))
  | [], vs, L, h, o, ho => by simp only [ownRL] at h; rw [h.2] at ho; simp at ho
  | x :: xs, vs, L, h, o, ho => by
    simp only [ownRL] at h
    obtain ⟨v, us, L1, L2, _, rfl, h3, h4⟩ := h
    rcases List.mem_append.1 ho with ho | ho
    · exact ownR_heap x v L1 h3 o ho
    · exact ownRL_heap xs us L2 h4 o ho
end
theorem callOk_of_wpcD {P : Program} {W : WP} {f : FuncId} {fn : Func} {c : Code} {args : List AV} {r : AV} {outs : List (List AV)} (md : Bool) (hm : P.follows .mixedOrders = true) (hf : P.funcs[f]? = some fn) (hb : fn.body = some c)
    (hok : codeOk W fn.ntmps c = true) (hn : args.length ≤ fn.ntmps) (h : wpc P W c (stIn args) (Post P fn (matL false args st00).2.nx (AV.flatL args) md r outs)) : CallOk P f args r outs := by
  intro w I vs L hI hown hnd
  have hbare : Ok P (bare w I) := bare_ok hI
  obtain ⟨m', M, hrep, hfr, hflat⟩ := matL_sound (g := false) args vs L st00 (bare w I) hbare rfl rfl hown ⟨hnd, fun o _ id hid => by simp [bare, Blk.dead] at hid⟩ (fun h => by cases h)
  obtain ⟨E0, hE0⟩ : ∃ E0 : Env, E0 = ⟨w, I, m', (matL false args st00).2.h, (matL false args st00).2.nx⟩ := ⟨_, rfl⟩
  have M' : MatOk P false (bare w I) E0 L := by rw [hE0]; exact M
  have hrep' : repL P E0 (matL false args st00).1 vs := by rw [hE0]; exact hrep
  have hvl : vs.length = args.length := ownRL_length args vs L hown
  have hold : ∀ id, (E0.h id).lv = true → ∃ o ∈ L, E0.m id = o.l ∧ (E0.h id).t = o.t ∧ (E0.h id).xs.length = o.n ∧ (E0.h id).gr = false := by
    intro id hid
    rcases M'.new id hid with ⟨h, _⟩ | h
    · simp [bare, Blk.dead] at h
    · exact h
  have hgr : ∀ id, id < E0.nx → (E0.h id).lv = true → (E0.h id).gr = false := fun id _ hid => by obtain ⟨o, _, _, _, _, h⟩ := hold id hid; exact h
  have hargl : (matL false args st00).1.length = args.length := by rw [← repL_length hrep', hvl]
  refine calls_of_wp hf hb ?_
  have hR : Rel P E0 (stIn args) { tmps := vs.toArray ++ Array.replicate (fn.ntmps - vs.toArray.size) undef, defers := [] } := by
    refine ⟨M'.ok, by rw [hE0]; rfl, by rw [hE0]; rfl, fun t => ?_⟩
    simp only [stIn]
    by_cases ht : t < args.length
    · have h1 : (matL false args st00).1[t]? = some ((matL false args st00).1[t]'(by omega)) := List.getElem?_eq_getElem (by omega)
      obtain ⟨v, hv, hr⟩ := repL_get hrep' t _ h1
      rw [List.getD_eq_getElem?_getD, h1, Array.getD_eq_getD_getElem?, Array.getElem?_append_left (by simp; omega)]
      have : vs.toArray[t]? = some v := by simpa using hv
      rw [this]; exact hr
    · rw [List.getD_eq_getElem?_getD, List.getElem?_eq_none (by omega)]
      simp [rep]
  have hsize : (vs.toArray ++ Array.replicate (fn.ntmps - vs.toArray.size) undef).size = fn.ntmps := by
    simp; omega
  have W0 := wpc_sound hm c hok (stIn args) _ _ E0 h hR hsize rfl
  have hw0 : E0.w = w := by rw [hE0]
  rw [hw0] at W0
  refine wp_mono W0 fun e a' w' hq => ?_
  obtain ⟨x, st', E', rfl, hpost, rfl, hR', hn', hd', hle, hgo⟩ := hq
  obtain ⟨hx, v, hv, ids, hids, hout⟩ := hpost
  obtain ⟨u, hres, hru⟩ := resV_sound hR' hv
  have hfrm : Frm P w E'.w L := goes_frm hw0 M'.ok hgo hold (fun o ho => by
    have := ownRL_heap args vs L hown o ho
    exact this) hnd
  have hmb : ∀ id, (E'.h id).lv = true → (E'.m id).b < E'.w.heap.size := fun id h => by
    obtain ⟨c, vs, h1, _⟩ := (hR'.ok.blk id h).at_; exact lt_of_heap h1
  have hI0 : E0.I = I := by rw [hE0]
  have hnx0 : E0.nx = (matL false args st00).2.nx := by rw [hE0]
  have hfresh : ∀ id, (E'.h id).lv = true → (E0.nx ≤ id ∨ (E'.h id).gr = true) → w.heap.size ≤ (E'.m id).b := by
    intro id hid hc
    rcases hgo.locs id hid with ⟨h1, h2, _, _⟩ | ⟨h1, _⟩
    · have hlt := (M'.ok.blk id h1).lt
      rcases hc with hc | hc
      · omega
      · rw [hgo.grs id hlt, hgr id hlt h1] at hc; cases hc
    · rw [hw0] at h1; exact h1
  have hdark1 : ∀ b, I b → E'.I b := fun b hb => (hle.imm b (by rw [hI0]; exact hb)).1
  have hdark2 : ∀ b, E'.I b → I b ∨ w.heap.size ≤ b := fun b hb => by
    have := hgo.dark b hb
    rw [hI0, hw0] at this
    rcases this with h | h | ⟨id, h1, h2, _⟩
    · exact .inl h
    · exact .inr h
    · rw [hgr id (M'.ok.blk id h1).lt h1] at h2; cases h2
  have outs_ok : ∀ (I' : Nat → Prop), (∀ b, E'.I b → I' b) → (outs = [] ∨ outs.length = L.length ∧ ∀ (k : Nat) (o : OLoc) (ys : List AV), L[k]? = some o → outs[k]? = some ys → outOk P (bare E'.w I') o ys) := by
    intro I' hI'
    rcases hout with h | ⟨hfl, hlen, hall⟩
    · exact .inl h
    · obtain ⟨hnxL, hmap⟩ := hflat hfl
      have hnx : (matL false args st00).2.nx = L.length := by rw [hnxL]; simp [bare]
      refine .inr ⟨by rw [hlen, hnx], fun k o ys hk hy => ?_⟩
      have hkl : k < L.length := by
        rcases Nat.lt_or_ge k L.length with h | h
        · exact h
        · rw [List.getElem?_eq_none h] at hk; cases hk
      obtain ⟨a1, a2, a3⟩ := hall k (by omega)
      rw [hR'.h] at a1 a2 a3
      rw [a2] at hy; cases hy
      have hm0 : E0.m k = o.l := by
        have := hmap k o hk
        rw [hE0]; simpa [bare] using this
      rcases hgo.locs k a1 with ⟨h1, h2, h3, h4⟩ | ⟨_, h2⟩
      · obtain ⟨o', ho', k1, k2, k3, k4⟩ := hold k h1
        have hoo : o' = o := by
          obtain ⟨j, hj⟩ := List.getElem?_of_mem ho'
          have e1 : (L.map (·.l.b))[j]? = some o'.l.b := by rw [List.getElem?_map, hj]; rfl
          have e2 : (L.map (·.l.b))[k]? = some o'.l.b := by rw [List.getElem?_map, hk]; show some o.l.b = _; rw [← hm0, k1]
          have hjl : j < (L.map (·.l.b)).length := by
            rcases Nat.lt_or_ge j (L.map (·.l.b)).length with h | h
            · exact h
            · rw [List.getElem?_eq_none h] at e1; cases e1
          have := (List.getElem?_inj hjl hnd).1 (e1.trans e2.symm)
          subst this
          rw [hj] at hk; cases hk; rfl
        subst hoo
        have hlen : (E'.h k).xs.length = o'.n := by
          simp only [Env.lim, k4, hgo.grs k (M'.ok.blk k h1).lt, Bool.false_eq_true, if_false] at h4
          rw [h4, k3]
        have B := hR'.ok.blk k a1
        obtain ⟨c1, ws, q1, q2, q3, _⟩ := B.at_
        refine ⟨hlen, a3, fun y hy => by rw [← k2, ← h3]; exact B.cl y hy, c1, ws, ?_, ?_, ?_⟩
        · rw [← k1, ← h2, ← k2, ← h3]; exact q1
        · exact repL_pure (E := E') (E' := bare E'.w I') (fun b hb => ⟨hI' b hb, rfl⟩) _ _ a3 q2
        · rw [← k1, ← h2, ← k2, ← h3]; exact q3
      · rcases h2 with h2 | h2
        · rw [hnx0] at h2; omega
        · have hlt : k < E0.nx := by rw [hnx0]; omega
          have hlv := (matL_live false args st00).2.2 k (Nat.zero_le _) (by omega)
          have hlv' : (E0.h k).lv = true := by rw [hE0]; exact hlv
          rw [hgr k hlt hlv'] at h2; cases h2
  have hend : bodyPost P fn (fun e w' => ∃ v I' L', e = .returned v ∧ Frm P w w' L ∧ (∀ b, I b → I' b) ∧ (∀ b, I' b → I b ∨ w.heap.size ≤ b) ∧ (∀ b, I' b → b < w'.heap.size) ∧
      ownR P (bare w' I') r v L' ∧ (L'.map (·.l.b)).Nodup ∧ (∀ o ∈ L', w.heap.size ≤ o.l.b ∧ o.l.base = 0) ∧
      (outs = [] ∨ outs.length = L.length ∧ ∀ (k : Nat) (o : OLoc) (ys : List AV), L[k]? = some o → outs[k]? = some ys → outOk P (bare w' I') o ys)) .ret a' E'.w := by
    refine ⟨hd', u, hres, ?_⟩
    cases md with
    | true =>
      simp only [if_true] at hids
      obtain ⟨L', q1, q2, q3, q4⟩ := ownA_sound hR'.ok hR'.h 8 v r ids u hids.1 hru
      refine ⟨u, E'.I, L', rfl, hfrm, hdark1, hdark2, hR'.ok.imm, ownR_move (E := E') (E' := bare E'.w E'.I) rfl rfl _ _ _ q1, ?_, fun o ho => ?_, outs_ok _ (fun _ h => h)⟩
      · have e : L'.map (·.l.b) = ids.map fun i => (E'.m i).b := by
          have := congrArg (List.map Loc.b) q3
          simpa [List.map_map, Function.comp_def] using this
        rw [e]
        have inj : ∀ (ids : List Nat), (∀ i ∈ ids, (E'.h i).lv = true) → ids.Nodup → (ids.map fun i => (E'.m i).b).Nodup := by
          intro ids
          induction ids with
          | nil => simp
          | cons a ids ih =>
            intro hl hn
            simp only [List.nodup_cons, List.map_cons] at hn ⊢
            refine ⟨fun hm => ?_, ih (fun i hi => hl i (by simp [hi])) hn.2⟩
            obtain ⟨j, hj, e⟩ := List.mem_map.1 hm
            exact hn.1 (hR'.ok.inj j a (hl j (by simp [hj])) (hl a (by simp)) e ▸ hj)
        exact inj ids (fun i hi => (q2 i hi).1) hids.2
      · obtain ⟨a, ha, k1, _⟩ := q4 o ho
        obtain ⟨g1, g2⟩ := q2 a ha
        rw [k1]
        exact ⟨hfresh a g1 (.inr g2), (hR'.ok.blk a g1).gr g2⟩
    | false =>
      simp only [Bool.false_eq_true, if_false] at hids
      obtain ⟨q1, q2, q3⟩ := snapA_sound hR'.ok hR'.h 8 v r ids u hids.1 hru
      refine ⟨u, (E'.shut ids).I, [], rfl, hfrm, fun b hb => .inl (hdark1 b hb), fun b hb => ?_, fun b hb => ?_, ?_, by simp, by simp, outs_ok _ (fun _ h => .inl h)⟩
      · rcases hb with h | ⟨i, hi, h1, h2⟩
        · exact hdark2 b h
        · rw [← h2]; exact .inr (hfresh i h1 (.inl (by rw [hnx0]; exact hids.2 i hi)))
      · rcases hb with h | ⟨i, hi, h1, h2⟩
        · exact hR'.ok.imm b h
        · rw [← h2]; exact hmb i h1
      · exact ownR_of_pure _ _ q1 (rep_pure (E := E'.shut ids) (E' := bare E'.w (E'.shut ids).I) (fun b hb => ⟨hb, rfl⟩) _ _ q1 q2)
  cases x with
  | normal => exact hend
  | ret => exact hend
  | exit i => exact hx.elim
theorem callOk_of_wpc {P : Program} {W : FuncId → Bool} {f : FuncId} {fn : Func} {c : Code} {args : List AV} {r : AV} {outs : List (List AV)} (md : Bool) (hm : P.follows .mixedOrders = true) (hf : P.funcs[f]? = some fn) (hb : fn.body = some c)
  (hok : codeOk ⟨W, fun _ => none⟩ fn.ntmps c = true) (hn : args.length ≤ fn.ntmps) (h : wpc P ⟨W, fun _ => none⟩ c (stIn args) (Post P fn (matL false args st00).2.nx (AV.flatL args) md r outs)) : CallOk P f args r outs := callOk_of_wpcD md hm hf hb hok hn h
end Go.Proofs.YtdljcbbodihagaaGreatDoor
