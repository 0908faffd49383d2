/- Ground 6. -/
import Derived.ProofKit
import Derived.LaidMore
import Derived.LaidLaws
import Derived.LaidHandle
import Derived.OpenShut
import Derived.ShutString
import Derived.SizedLaws
import Derived.SliceStrings
import Derived.Carry
import Derived.Stop.Joined
import Derived.SevenTiedAt
import Derived.Stop.LaidErr
import Derived.Test.YthiddlfddncbmaaGreatDoorM5

set_option linter.unusedVariables false
set_option linter.unusedSimpArgs false
set_option maxRecDepth 100000
namespace Go.Proofs.YthiddlfddncbmaaGreatDoor
open Go

section
open Go Go.ChangeShapes Go.WideShapes Go.ChangeAt Go.RowKit
inductive Cl where
 | bool
 | int (k : IntKind)
 | str
 | sl (e : Nat) (c : Cl)
def Cl.fit (P : Program) : Cl → TypeId → Prop
 | .bool, t => P.underlying t = some .bool
 | .int k, t => P.underlying t = some (.int k)
 | .str, t => P.underlying t = some .string
 | .sl e c, t => P.underlying t = some (.slice e) ∧ P.cellsOf e = 1 ∧ szT P e = 1 ∧ 0 < P.bytesOf e ∧ c.fit P e
def isC : Cl → AV → Prop
 | .bool, x => ∃ b, x = .bool b
 | .int k, x => ∃ n, x = .int k n ∧ (Lit.int k n).wf = true
 | .str, x => ∃ s, x = .str s ∧ s.length < 4611686018427387904
 | .sl e c, x => ∃ xs, x = .sl e xs [] false ∧ xs.length < 4611686018427387904 ∧ ∀ y ∈ xs, isC c y
def isCL : List Cl → List AV → Prop
 | [], xs => xs = []
 | c :: cs, xs => ∃ x r, xs = x :: r ∧ isC c x ∧ isCL cs r
inductive Ty where
 | cell (c : Cl)
 | st (cs : List Cl)
def isT : Ty → AV → Prop
 | .cell c, x => isC c x
 | .st cs, x => ∃ xs, x = .agg xs ∧ isCL cs xs
def isTL : List Ty → List AV → Prop
 | [], xs => xs = []
 | c :: cs, xs => ∃ x r, xs = x :: r ∧ isT c x ∧ isTL cs r
def stFit (P : Program) : Nat → List Field → List Cl → Prop
 | _, [], [] => True
 | j, f :: fs, c :: cs => f.offset = j ∧ P.cellsOf f.type = 1 ∧ c.fit P f.type ∧ stFit P (j + 1) fs cs
 | _, _, _ => False
def Ty.fit (P : Program) : Ty → TypeId → Prop
 | .cell c, t => c.fit P t
 | .st cs, t => ∃ fs, P.underlying t = some (.struct fs) ∧ P.cellsOf t = fs.size ∧ stFit P 0 fs.toList cs
def tysFit (P : Program) : List Ty → List TypeId → Prop
 | [], [] => True
 | y :: ys, t :: ts => y.fit P t ∧ tysFit P ys ts
 | _, _ => False
theorem J9 {c : Cl} {x : AV} (h : isC c x) : x.pure = true ∧ x.one = true ∧ x.cells = [x] := by
 induction c generalizing x with
 | bool => obtain ⟨b, rfl⟩ := h; exact ⟨rfl, rfl, rfl⟩
 | int k => obtain ⟨b, rfl, _⟩ := h; exact ⟨rfl, rfl, rfl⟩
 | str => obtain ⟨b, rfl, _⟩ := h; exact ⟨rfl, rfl, rfl⟩
 | sl e c ih =>
  obtain ⟨xs, rfl, hlen, h⟩ := h
  refine ⟨?_, rfl, rfl⟩
  simp only [AV.pure, AV.pureL, Bool.and_true]
  clear hlen
  induction xs with
  | nil => rfl
  | cons y ys ih' => simp only [AV.pureL, Bool.and_eq_true]; exact ⟨(ih (h y zS)).1, ih' fun z hz => h z (by simp [hz])⟩
theorem JG : ∀ {cs : List Cl} {xs : List AV}, isCL cs xs → AV.pureL xs = true
 | [], xs, h => by simp only [isCL] at h; subst h; rfl
 | c :: cs, xs, h => by
  obtain ⟨x, r, rfl, h1, h2⟩ := h
  simp only [AV.pureL, Bool.and_eq_true]; exact ⟨(J9 h1).1, JG h2⟩
theorem RZ {y : Ty} {x : AV} (h : isT y x) : x.pure = true := by
 cases y with
 | cell c => exact (J9 h).1
 | st cs => obtain ⟨xs, rfl, h⟩ := h; simp only [AV.pure]; exact JG h
theorem pick {Q : Nat → Value → AV → Prop} {n : Nat} (h : ∀ i, i < n → ∃ v x, Q i v x) : ∃ (vs : List Value) (xs : List AV), vs.length = n ∧ xs.length = n ∧ ∀ i v x, vs[i]? = some v → xs[i]? = some x → Q i v x := by
 induction n with
 | zero => exact ⟨[], [], rfl, rfl, fun i v x hv => by simp at hv⟩
 | succ n ih =>
  obtain ⟨vs, xs, h1, h2, h3⟩ := ih fun i hi => h i zO
  obtain ⟨v, x, hq⟩ := h n zO
  refine ⟨vs ++ [v], xs ++ [x], by simp [h1], by simp [h2], fun i v' x' hv hx => ?_⟩
  by_cases hi : i < n
  ·rw [List.getElem?_append_left zO] at hv hx
   exact h3 i v' x' hv hx
  ·have hi' : i = n := by
    have := (List.getElem?_eq_some_iff.1 hv).1
    simp at this
    omega
   subst hi'
   rw [List.getElem?_append_right zO, h1, Nat.sub_self] at hv
   rw [List.getElem?_append_right zO, h2, Nat.sub_self] at hx
   simp only [List.getElem?_cons_zero, Option.some.injEq] at hv hx
   subst hv; subst hx
   exact hq
theorem WS {w : World} {a : Addr} {n : Nat} {vs : List Value} (hn : vs.length = n) (h0 : n ≠ 0) (hc : ∀ i v, vs[i]? = some v → w.cell? (a.add i) = some v) :
  a.spot = none ∧ ∃ c e f, w.heap[a.block]? = some (.cells c e f) ∧ ∀ i v, vs[i]? = some v → c[a.off + i]? = some v := by
 obtain ⟨v0, hv0⟩ : ∃ v, vs[0]? = some v := ⟨vs[0]'(by omega), by simp [List.getElem?_eq_getElem (show 0 < vs.length by omega)]⟩
 have h0 := hc 0 v0 hv0
 simp only [Addr.add, ↓reduceIte, World.cell?] at h0
 split at h0
 ·rename_i c e f hb
  split at h0
  ·cases h0
  ·rename_i hs
   refine ⟨by simpa using hs, c, e, f, hb, fun i v hi => ?_⟩
   by_cases hi0 : i = 0
   ·subst hi0
    rw [hv0] at hi; cases hi
    simpa using h0
   ·have := hc i v hi
    simp only [Addr.add, if_neg hi0, World.cell?, hb] at this
    simpa using this
 ·cases h0
section
variable {H : Type} {enc : TypeId × Value → H} {P : Program} {W : World} {R : Nat → Prop}
theorem GX : ∀ (c : Cl) {t : TypeId} {fuel : Nat} {cs : List Value} {d : DataW H} {ps : List MemPlace}, c.fit P t → DataW.trod enc P W 0 (fun _ => true) true fuel t cs = some (d, ps) →
  (∀ n ∈ d.weights P t, n ≤ reachBytes) → (∀ p ∈ ps, R p.block) → ∃ v x, cs = [v] ∧ isC c x ∧ rep P (bare W R) x v ∧ v.cells = #[v]
 | .bool, t, fuel, cs, d, ps, hf, h, hw, hp => by
  obtain ⟨b, rfl, _⟩ := DataW.trod_bool hf h
  exact ⟨_, .bool b, rfl, ⟨b, rfl⟩, by simp [rep], rfl⟩
 | .int k, t, fuel, cs, d, ps, hf, h, hw, hp => by
  obtain ⟨n, rfl, _, h1⟩ := DataW.trod_int hf h
  exact ⟨_, .int k n, rfl, ⟨n, rfl, h1⟩, by simp [rep], rfl⟩
 | .str, t, fuel, cs, d, ps, hf, h, hw, hp => by
  obtain ⟨s, rfl, hx, _⟩ := DataW.trod_string hf h
  simp only [Prod.mk.injEq] at hx
  obtain ⟨rfl, _⟩ := hx
  have := hw s.data.toList.length (by simp [DataW.weights])
  have hr : reachBytes = 140737488351232 := rfl
  exact ⟨_, .str s.data.toList, rfl, ⟨_, rfl, zO⟩, by simp [rep], rfl⟩
 | .sl e c, t, fuel, cs, d, ps, hf, h, hw, hp => by
  obtain ⟨f1, f2, f3, f4, f5⟩ := hf
  rcases DataW.trod_slice f1 h with ⟨rfl, hx⟩ | ⟨a, len, cap, elems, rest, n, _, rfl, hx, hb, hl, hm, hlen, hel, hsp, _⟩
  ·refine ⟨_, .sl e [] [] false, rfl, ⟨[], rfl, zS, zS⟩, ?_, rfl⟩
   simp only [rep]
   exact ⟨none, 0, rfl, zS, zS, zS, [], [], rfl, rfl, zS⟩
  simp only [Prod.mk.injEq] at hx
  obtain ⟨rfl, rfl⟩ := hx
  obtain ⟨hrl, _⟩ := hsp rfl
  rw [f2] at hel hp
  simp only [Nat.mul_one] at hel hp
  have hw1 : len * P.bytesOf e ≤ reachBytes := by
   have := hw ((elems.length + rest.length) * P.bytesOf e) (by simp [DataW.weights, f1])
   exact Nat.le_trans (Nat.mul_le_mul_right _ zO) this
  have hlen' : len < 4611686018427387904 := by
   have hr : reachBytes = 140737488351232 := rfl
   have := Nat.le_mul_of_pos_right len f4
   omega
  have hblk : len ≠ 0 → R a.block := fun hne => hp (.cell a.block (a.off + 0)) (by
   simp only [List.mem_append, MemPlace.row, List.mem_map, List.mem_range]
   exact .inl ⟨0, zO, rfl⟩)
  have each : ∀ i, i < len → ∃ v x, W.cell? (a.add i) = some v ∧ isC c x ∧ rep P (bare W R) x v ∧ v.cells = #[v] := by
   intro i hi
   have hy := hel i hi
   obtain ⟨y, hy'⟩ : ∃ y, elems[i]? = some y := ⟨elems[i]'(by omega), by simp [List.getElem?_eq_getElem (show i < elems.length by omega)]⟩
   rw [hy', Option.bind_eq_some_iff] at hy
   obtain ⟨cs', hcs, hz⟩ := hy
   have hmem : y ∈ elems := List.mem_of_getElem? hy'
   obtain ⟨v, x, rfl, h2, h3, h4⟩ := GX c f5 hz (fun n hn => hw n (by
    simp only [DataW.weights, f1, List.mem_cons, List.mem_append]
    exact .inr (.inl (mem_all hmem hn)))) (fun p hp' => hp p (by
    simp only [List.mem_append, List.mem_flatMap]
    exact .inr ⟨y, .inl hmem, hp'⟩))
   exact ⟨v, x, cell_of_cells?_one hcs, h2, h3, h4⟩
  obtain ⟨vs, xs, k1, k2, k3⟩ := pick each
  have hx : ∀ y ∈ xs, isC c y := by
   intro y hy
   obtain ⟨i, hi⟩ := List.getElem?_of_mem hy
   have hlt : i < vs.length := by have := (List.getElem?_eq_some_iff.1 hi).1; omega
   exact (k3 i vs[i] y (List.getElem?_eq_getElem hlt) hi).2.1
  have hv : ∀ (i : Nat) (v : Value), vs[i]? = some v → W.cell? (a.add i) = some v ∧ v.cells = #[v] := by
   intro i v hi
   have hlt : i < xs.length := by have := (List.getElem?_eq_some_iff.1 hi).1; omega
   have := k3 i v xs[i] hi (List.getElem?_eq_getElem hlt)
   exact ⟨this.1, this.2.2.2⟩
  refine ⟨_, .sl e xs [] false, rfl, ⟨xs, rfl, zO, hx⟩, ?_, rfl⟩
  simp only [rep]
  refine ⟨some a, cap, by rw [k2], by simpa [k2] using hl, zS, ?_, vs, [], En (k1.trans k2.symm) fun i x v h1 h2 => (k3 i v x h2 h1).2.2.1, by simp [repL], fun hne => ?_⟩
  ·intro y hy
   rw [List.append_nil] at hy
   have := J9 (hx y hy)
   simp [AV.el, this.2.1, this.2.2, f3]
  ·have hne' : len ≠ 0 := by rw [k2] at hne; simpa using hne
   obtain ⟨hs, cc, ee, ff, hh, hc⟩ := WS k1 hne' fun i v hi => (hv i v hi).1
   refine ⟨a.block, a.off, cc, (ee, ff), by cases a; simp_all, hblk hne', hh, fun i v hi => ?_⟩
   rw [List.append_nil] at hi
   rw [(hv i v hi).2, f3]
   refine ⟨zS, fun j u hj => ?_⟩
   have hj0 : j = 0 ∧ u = v := by cases j <;> simp_all
   obtain ⟨rfl, rfl⟩ := hj0
   simpa using hc i u hi
where
 mem_all {e : TypeId} {y : DataW H × List MemPlace} {n : Nat} : ∀ {elems : List (DataW H × List MemPlace)}, y ∈ elems → n ∈ y.1.weights P e → n ∈ DataW.weightsAll P e (elems.map (·.1))
  | z :: elems, hm, hn => by
   simp only [List.map_cons, DataW.weightsAll, List.mem_append]
   rcases List.mem_cons.1 hm with rfl | hm
   ·exact .inl hn
   ·exact .inr (mem_all hm hn)
theorem Gx {n : Nat} {vs : List Value} : ∀ (cs : List Cl) (fs : List Field) (j : Nat) (xs : List (DataW H × List MemPlace)), stFit P j fs cs → vs.length = j + fs.length → xs.length = fs.length →
  (∀ (i : Nat) (f : Field), fs[i]? = some f → DataW.trod enc P W 0 (fun _ => true) true n f.type ((vs.drop f.offset).take (P.cellsOf f.type)) = xs[i]?) →
  (∀ n ∈ DataW.weightsEach P (fs.map (·.type)) (xs.map (·.1)), n ≤ reachBytes) → (∀ p ∈ xs.flatMap (·.2), R p.block) → ∃ avs, isCL cs avs ∧ repL P (bare W R) avs (vs.drop j)
 | [], [], j, xs, _, hl, _, _, _, _ => ⟨[], rfl, by
   have hl : vs.length = j := by simpa using hl
   simp [repL, ← hl]⟩
 | c :: cs, f :: fs, j, y :: xs, ⟨h1, h2, h3, h4⟩, hl, hx, ht, hw, hp => by
  have h0 := ht 0 f rfl
  simp only [List.length_cons] at hl hx
  rw [h1, h2, List.getElem?_cons_zero] at h0
  obtain ⟨v, x, k1, k2, k3, k4⟩ := GX (R := R) c h3 h0 (fun n hn => hw n (by simp [DataW.weightsEach, hn])) (fun p hp' => hp p (by simp [hp']))
  have hx' : xs.length = fs.length := by omega
  obtain ⟨avs, q1, q2⟩ := Gx (vs := vs) cs fs (j + 1) xs h4 zO hx' (fun i f' hi => by simpa using ht (i + 1) f' (by simpa using hi)) (fun n hn => hw n (by simp [DataW.weightsEach, hn])) (fun p hp' => hp p (by
   simp only [List.flatMap_cons, List.mem_append]; exact .inr hp'))
  have hd : vs.drop j = v :: vs.drop (j + 1) := by
   have hj : j < vs.length := by omega
   rw [List.drop_eq_getElem_cons hj] at k1 ⊢
   simp only [List.take_succ_cons, List.take_zero, List.cons.injEq, and_true] at k1
   rw [k1]
  refine ⟨x :: avs, ⟨x, avs, rfl, k2, q1⟩, ?_⟩
  rw [hd]
  exact ⟨v, _, rfl, k3, q2⟩
 | [], _ :: _, _, _, h, _, _, _, _, _ => by simp [stFit] at h
 | _ :: _, [], _, _, h, _, _, _, _, _ => by simp [stFit] at h
 | _ :: _, _ :: _, _, [], _, _, h, _, _, _ => by simp at h
theorem Ml {c : Cl} {t : TypeId} {base : Nat} {v : Value} (hf : c.fit P t) (h : Value.okWide P W .any base t v) : v.cells = #[v] := by
 cases c with
 | bool => obtain ⟨b, rfl⟩ := okWide_bool hf h; rfl
 | int k => obtain ⟨b, rfl⟩ := okWide_int hf h; rfl
 | str => obtain ⟨b, rfl⟩ := okWide_string hf h; rfl
 | sl e c => obtain ⟨a, b, d, rfl⟩ := okWide_slice hf.1 h; rfl
theorem PJ {y : Ty} {t : TypeId} {base : Nat} {v : Value} {d : DataW H} {ps : List MemPlace} (hf : y.fit P t) (hok : Value.okWide P W .any base t v) (h : DataW.Trod enc P W 0 (fun _ => true) true t v d ps)
  (hw : ∀ n ∈ d.weights P t, n ≤ reachBytes) (hp : ∀ p ∈ ps, R p.block) : ∃ x, isT y x ∧ rep P (bare W R) x v := by
 obtain ⟨fuel, h⟩ := h
 cases y with
 | cell c =>
  obtain ⟨u, x, k1, k2, k3, k4⟩ := GX c hf h hw hp
  rw [Ml hf hok] at k1
  simp only [List.cons.injEq, and_true] at k1
  subst k1
  exact ⟨x, k2, k3⟩
 | st cs =>
  obtain ⟨fs, f1, f2, f3⟩ := hf
  obtain ⟨xs, n, _, hx, hl, hlen, hfd⟩ := DataW.trod_struct f1 h
  simp only [Prod.mk.injEq] at hx
  obtain ⟨rfl, rfl⟩ := hx
  simp only [Value.okWide, f1] at hok
  obtain ⟨vs, rfl, _, _⟩ := hok
  obtain ⟨avs, k1, k2⟩ := Gx (R := R) (vs := vs.toList) cs fs.toList 0 xs f3 (by rw [f2] at hl; simpa [Value.cells] using hl) (by simpa using hlen) (fun i f hi => hfd i f (by simpa using hi)) (by simpa [DataW.weights, f1] using hw) hp
  exact ⟨.agg avs, ⟨avs, rfl, k1⟩, by simp only [rep]; exact ⟨vs.toList, zS, by simpa using k2⟩⟩
theorem La {base : Nat} : ∀ {ys : List Ty} {ts : List TypeId} {vs : List Value} {ds : List (DataW H)} {ps : List MemPlace}, tysFit P ys ts → DataW.TrodAll enc P W 0 (fun _ => true) true ts vs ds ps →
  (∀ (j : Nat) t v, ts[j]? = some t → vs[j]? = some v → Value.okWide P W .any base t v) → (∀ n ∈ DataW.weightsEach P ts ds, n ≤ reachBytes) → (∀ p ∈ ps, R p.block) →
  ∃ xs, isTL ys xs ∧ ownRL P (bare W R) xs vs []
 | [], [], vs, ds, ps, _, h, _, _, _ => by
  obtain ⟨rfl, rfl, rfl⟩ := trodAll_nil h
  exact ⟨[], rfl, by simp [ownRL]⟩
 | y :: ys, t :: ts, vs, ds, ps, ⟨f1, f2⟩, h, hok, hw, hp => by
  obtain ⟨v, vs', d, ds', p, q, rfl, rfl, rfl, h1, h2⟩ := trodAll_cons h
  obtain ⟨x, k1, k2⟩ := PJ (R := R) f1 (hok 0 t v rfl rfl) h1 (fun n hn => hw n (by simp [DataW.weightsEach, hn])) (fun p hp' => hp p (by simp [hp']))
  obtain ⟨xs, k3, k4⟩ := La f2 h2 (fun j t v ht hv => hok (j + 1) t v (by simpa using ht) (by simpa using hv)) (fun n hn => hw n (by simp [DataW.weightsEach, hn])) (fun p hp' => hp p (by simp [hp']))
  refine ⟨x :: xs, ⟨x, xs, rfl, k1, k3⟩, ?_⟩
  simp only [ownRL]
  exact ⟨v, vs', [], [], rfl, rfl, Bw x v (RZ k1) k2, k4⟩
 | [], _ :: _, _, _, _, h, _, _, _, _ => by simp [tysFit] at h
 | _ :: _, [], _, _, _, h, _, _, _, _ => by simp [tysFit] at h
def LawOk (P : Program) (f : FuncId) (ys : List Ty) : Prop := ∀ xs, isTL ys xs → CallOk P f xs (.bool true) []
theorem WT {k : IntKind} {zs : List Int} {g : Nat} (h : Lib.TabIs P W tabName k zs) (hg : P.globalNamed tabName = some g) : g < W.heap.size := by
 unfold Lib.TabIs World.var? at h
 rw [hg, Option.bind_some] at h
 split at h
 ·rename_i he; exact BC he
 ·cases h
theorem LawOk.walk {f : FuncId} {ys : List Ty} {ts : List TypeId} {args : Array Value} {ds : List (DataW H)} {ps : List MemPlace} {base : Nat} (hf : LawOk P f ys) (hy : tysFit P ys ts)
  (h : DataW.TrodAll enc P W 0 (fun _ => true) true ts args.toList ds ps) (hok : ∀ (j : Nat) t v, ts[j]? = some t → args.toList[j]? = some v → Value.okWide P W .any base t v)
  (hw : (DataW.weightsEach P ts ds).all (· ≤ reachBytes) = true) (hlt : ∀ p ∈ ps, p.block < W.heap.size) (htab : ∀ g, P.globalNamed tabName = some g → Lib.TabIs P W tabName .u64 tabNums) :
  Calls P f args W fun e w' => e = .returned (.bool true) ∧ Below W.heap.size W w' := by
 obtain ⟨xs, h1, h2⟩ := La (R := fun b => b < W.heap.size) hy h hok (fun n hn => by simpa using List.all_eq_true.1 hw n hn) (fun p hp => hlt p hp)
 have := hf xs h1 W _ _ _ ⟨fun _ h => h, fun g hg => ⟨WT (htab g hg) hg, htab g hg⟩⟩ h2 zS
 rw [Array.toArray_toList] at this
 refine this.mono fun e w' hp => ?_
 obtain ⟨v, I', L', rfl, q1, _, _, _, q5, _⟩ := hp
 have : v = .bool true := by simp only [ownR, rep] at q5; exact q5.2
 exact ⟨by rw [this], q1.os, q1.tape, q1.output, q1.size, fun k hk => q1.same k hk zS⟩
end
section
variable {H : Type} {enc : TypeId × Value → H} {P : Program} {W : World}
theorem IA : ∀ {ts : List TypeId} {vs : List Value} {ds : List (DataW H)} {ps : List MemPlace}, DataW.TrodAll enc P W 0 (fun _ => true) true ts vs ds ps → ∀ p ∈ ps, p.block < W.heap.size
 | [], _, _, _, h => by obtain ⟨_, _, rfl⟩ := trodAll_nil h; simp
 | _ :: _, _, _, _, h => by
  obtain ⟨v, vs', d, ds', p, q, rfl, rfl, rfl, ⟨m, h1⟩, h2⟩ := trodAll_cons h
  intro x hx
  rcases List.mem_append.1 hx with hx | hx
  ·exact DataW.trod_lt m _ _ _ h1 x hx
  ·exact IA h2 x hx
theorem FM {W' : World} (hl : laidOutB P = true) (hb : Below W.heap.size W W') : ∀ {ts : List TypeId} {vs : List Value} {ds : List (DataW H)} {ps : List MemPlace}, ts.all (fun t => P.readableRec t && decide (t < P.types.size)) = true →
  DataW.TrodAll enc P W 0 (fun _ => true) true ts vs ds ps → (∀ p ∈ ps, p.block < W.heap.size) → DataW.TrodAll enc P W' 0 (fun b => decide (b < W.heap.size)) true ts vs ds ps
 | [], _, _, _, _, h, _ => by obtain ⟨rfl, rfl, rfl⟩ := trodAll_nil h; rfl
 | t :: ts, _, _, _, hr, h, hlt => by
  obtain ⟨v, vs', d, ds', p, q, rfl, rfl, rfl, h1, h2⟩ := trodAll_cons h
  simp only [List.all_cons, Bool.and_eq_true, decide_eq_true_eq] at hr
  exact trodAll_cons_mk (Below.trod hl hr.1.1 hr.1.2 h1 hb fun x hx => hlt x (by simp [hx])) (FM hl hb hr.2 h2 fun x hx => hlt x (by simp [hx]))
theorem Gy : ∀ {ts : List TypeId} {vs : List Value} {ds : List (DataW H)} {ps : List MemPlace}, DataW.TrodAll enc P W 0 (fun _ => true) true ts vs ds ps → ds.length = ts.length
 | [], _, _, _, h => by obtain ⟨_, rfl, _⟩ := trodAll_nil h; rfl
 | _ :: _, _, _, _, h => by
  obtain ⟨v, vs', d, ds', p, q, rfl, rfl, rfl, _, h2⟩ := trodAll_cons h
  simp [Gy h2]
theorem Mm {P : Program} {l : List (String × DataW Unit)} {w : World} (hp : (l.filter fun x => x.2.handleName?.isSome) = []) (h : laidMetH P l w) : laidMet P l w := by
 unfold laidMetH at h; rw [hp] at h; exact h
theorem JH {P : Program} {w : World} : ∀ {l : List (String × DataW Unit)} (k : Nat), laidMet P l w → laidMet P (l.drop k) w
 | _, 0, h => h
 | [], _ + 1, h => h
 | _ :: _, k + 1, h => JH k h.tail
theorem Lb {P : Program} {l : List (String × DataW Unit)} {w : World} {g n : Nat} {t e : TypeId} (k : Nat) (hg : P.globalNamed tabName = some g) (hty : (P.globals[g]?).map (·.type) = some t) (ht : P.underlying t = some (.array n e)) (he : P.underlying e = some (.int .u64))
  (hce : P.cellsOf e = 1) (hct : P.cellsOf t = n) (hp : (l.filter fun x => x.2.handleName?.isSome) = []) (hk : l.drop k = (tabName, Lib.tabData .u64 tabNums) :: l.drop (k + 1)) (h : laidMetH P l w) : ∀ g', P.globalNamed tabName = some g' → Lib.TabIs P w tabName .u64 tabNums := fun _ _ => by
 have h1 := JH k (Mm hp h)
 rw [hk] at h1
 exact Lib.tabIs_of_head hg hty ht he hce hct h1
theorem LawOk.lifted {C : Checked} {os : Os} (own : ownKnob C.prog.godebug = none) (started : os.Started) {f : FuncId} {fn : Func} {s : ChangeSpec} {apart : Bool} {X : World → Array Value → Prop} {ys : List Ty}
  {ts : List TypeId} {rt : TypeId} (hf : LawOk C.prog f ys) (hX : ∀ (w w' : World) (args : Array Value), w.heap = w'.heap → X w args → X w' args) (hT : ∀ (w : World) (args : Array Value), X w args → ∀ g, C.prog.globalNamed tabName = some g → Lib.TabIs C.prog w tabName .u64 tabNums) (noInit : C.prog.inits.idxOf? f = none) (hfn : C.prog.funcs[f]? = some fn)
  (hps : fn.params = ts.toArray) (hrs : fn.resultTypes = #[rt]) (hrt : C.prog.underlying rt = some .bool) (hy : tysFit C.prog ys ts) (hl : laidOutB C.prog = true) (hr : ts.all (fun t => C.prog.readableRec t && decide (t < C.prog.types.size)) = true)
  (hv : s.vars = []) (hs : ∀ ds : List (DataW H), ds.length = ts.length → s.fn H ds = { results := [.lit (.bool true)], args := ds })
  (witness : ∃ (w : World) (tape : Tape) (i : Input), w.os = os ∧ (w.forCall tape i).Shaped C.prog ∧ i.vars = [] ∧ Input.okWide C.prog (w.forCall tape i) .any w.heap.size f i ∧
   ((s.pre enc C.prog fn [] apart (w.forCall tape i).memory i.args ∧ X (w.forCall tape i).memory i.args) ∧ sizedMet enc C.prog fn (OpenSpec.ofChange s) apart (w.forCall tape i).memory i.args) ∧ ({} : Assume).holds C.prog (lone (Frame.enter C.prog f i.args .normal) [] (w.forCall tape i))) :
  ReturnsInHanded {} C os f .any (fun w args => (s.pre enc C.prog fn [] apart w args ∧ X w args) ∧ sizedMet enc C.prog fn (OpenSpec.ofChange s) apart w args) (s.post enc C.prog fn apart true false false) := by
 refine returnsInHanded_of_change_and (X := X) hX own started noInit hfn witness ?_
 intro W base args ds gs before hval hW _ hsz hXW _
 have hW' := hW
 obtain ⟨p, q, hA, hV, rfl, hfz, hnd⟩ := hW
 rw [hv] at hV
 obtain ⟨rfl, rfl⟩ := trodVars_none hV
 rw [hps] at hA hsz hval
 have hts : ts.toArray.toList = ts := by simp
 rw [hts] at hA hsz
 have hlt := IA hA
 have hvt : s.plain.varTypes C.prog = [] := by simp [ChangeSpec.plain, DataSpec.varTypes, hv]
 rw [hvt, List.append_nil, List.append_nil] at hsz
 refine (hf.walk hy hA (fun j t v ht hv' => hval j t v (by simpa using ht) (by simpa using hv')) hsz hlt (hT W args hXW)).mono fun e W' ⟨he, bel⟩ => ?_
 subst he
 have hsd := hs ds (Gy hA)
 refine ⟨_, rfl, ds, [], _, [], p, [], hW', ?_, ?_, ?_, bel.frame _, fun h => by cases h⟩
 ·rw [List.append_nil, hsd, hrs]
  exact trodAll_mk1 (shut_bool hrt _)
 ·rw [List.append_nil, hsd, hps, hts]
  exact FM hl bel hr hA hlt
 ·rw [List.append_nil, hsd, hv]
  rfl
end
end
theorem Fa {x : Txs} : snpP false (rowOf x) = .sl 9 (strA x) [] false := by unfold snpP; rw [if_neg D5]; rfl
theorem Lc {rs : List Txs} : snpSS false (rowsP rs) = .sl 22 (rowsT rs) [] false := by
 unfold snpSS; rw [if_neg (fun h => by cases h.1)]
 congr 1
 rw [rowsP, rowsT, List.map_map]
 exact List.map_congr_left fun x _ => Fa
theorem KA {m : Ntw} : AV.agg [snpP false (rowOf m.arr), snpP false (rowOf m.srv), snpSS false (rowsP m.rts)] = m.av := by rw [Fa, Fa, Lc]
theorem IB {P : Program} {b : Bool} {x : Txs} : Sub P (snpP b (rowOf x)) (.sl 9 (strA x) [] false) := by
 unfold snpP
 split
 ·rename_i h
  have : x = [] := h.2
  subst this
  exact G6
 ·exact Sub.refl _
theorem Mn {P : Program} {b : Bool} {x : Txs} : SubEl P (snpP b (rowOf x)) (.sl 9 (strA x) [] false) := by
 refine ⟨IB, ?_, by simp [AV.pure, AV.pureL, AU], fun t ht => ?_⟩
 ·unfold snpP; split
  ·rfl
  ·simp [AV.pure, AV.pureL, AU, rowOf]
 ·unfold snpP at ht; split at ht
  ·simpa [AV.el, AV.cells, AV.one] using ht
  ·simpa [AV.el, AV.cells, AV.one] using ht
theorem IC {P : Program} {b : Bool} : ∀ {rs : List Txs}, SubLL P ((rowsP rs).map (snpP b)) (rowsT rs)
 | [] => .nil
 | r :: rs => .cons Mn IC
theorem PK {P : Program} {b : Bool} {rs : List Txs} : Sub P (snpSS b (rowsP rs)) (.sl 22 (rowsT rs) [] false) := by
 unfold snpSS
 split
 ·rename_i h
  have : rs = [] := by have := h.2; simpa [rowsP] using this
  subst this
  exact G6
 ·exact SR IC
theorem Mo {P : Program} {b : Bool} {m : Ntw} : Sub P (.agg [snpP b (rowOf m.arr), snpP b (rowOf m.srv), snpSS b (rowsP m.rts)]) m.av :=
 Fm (SubL.cons IB (SubL.cons IB (SubL.cons PK .nil)))
section
variable {P : Program} {W : FuncId → Bool} {d : Option Tmp} {ops : Array Oper} {os : List Oper} {fr : Nat → AV} {h : Nat → Blk} {nx : Nat} {K : St → Prop} {t : TokC ⟨d, ops, os, fr, h, nx, K⟩} {g : FuncId} {al : List AV}
theorem ID {sargs : List AV} {r : AV} (hc : CallOk P g sargs r []) (hg : callable P g = true) (hs : ∃ ids, snapL (snapA ⟨fr, h, nx⟩ 8) al = some (sargs, ids)) (hr : r.pure = true) (ht : r.solid = true)
  (hk : wpos P W ops os (St.put ⟨fr, h, nx⟩ d r) K) : callW P W g al ⟨d, ops, os, fr, h, nx, K⟩ t := by
 obtain ⟨ids, hs⟩ := hs
 exact Jr hc hg hs hr ht hk
end
theorem Nl {st : St} {b : Bool} {hi lo : Nat} {m : Ntw} {e : AV} (H : NetN st.h b hi lo m e) : ∃ ids, snapL (snapA st 8) [e] = some ([.agg [snpP b (rowOf m.arr), snpP b (rowOf m.srv), snpSS b (rowsP m.rts)]], ids) := by
 obtain ⟨ids, h⟩ := H.snap
 exact ⟨ids ++ [], by simp [snapL, h]⟩
theorem Ld {st : St} {hi lo : Nat} {m : Ntw} {e : AV} (H : NetN st.h false hi lo m e) : ∃ ids, snapL (snapA st 8) [e] = some ([m.av], ids) := by rw [← KA]; exact Nl H
theorem GY {x : AV} (h : isC (.sl 9 .str) x) : ∃ xs : Txs, x = .sl 9 (strA xs) [] false ∧ txsLen xs := by
  obtain ⟨ys, rfl, hl, hy⟩ := h
  have : ∃ xs : Txs, ys = strA xs ∧ ∀ s ∈ xs, s.length < 4611686018427387904 := by
    clear hl
    induction ys with
    | nil => exact ⟨[], rfl, by simp⟩
    | cons y ys ih =>
      obtain ⟨xs, rfl, h1⟩ := ih fun z hz => hy z (by simp [hz])
      obtain ⟨s, rfl, hs⟩ := hy y (by simp)
      exact ⟨s :: xs, rfl, by intro u hu; rcases List.mem_cons.1 hu with rfl | hu; · exact hs
                              · exact h1 u hu⟩
  obtain ⟨xs, rfl, h1⟩ := this
  exact ⟨xs, rfl, by rw [AE] at hl; exact hl, h1⟩
theorem Ra {x : AV} (h : isC (.sl 22 (.sl 9 .str)) x) : ∃ rs : List Txs, x = .sl 22 (rowsT rs) [] false ∧ rs.length < 4611686018427387904 ∧ ∀ r ∈ rs, txsLen r := by
  obtain ⟨ys, rfl, hl, hy⟩ := h
  have : ∃ rs : List Txs, ys = rowsT rs ∧ ∀ r ∈ rs, txsLen r := by
    clear hl
    induction ys with
    | nil => exact ⟨[], rfl, by simp⟩
    | cons y ys ih =>
      obtain ⟨rs, rfl, h1⟩ := ih fun z hz => hy z (by simp [hz])
      obtain ⟨r, rfl, hs⟩ := GY (hy y (by simp))
      exact ⟨r :: rs, rfl, by intro u hu; rcases List.mem_cons.1 hu with rfl | hu; · exact hs
                              · exact h1 u hu⟩
  obtain ⟨rs, rfl, h1⟩ := this
  exact ⟨rs, rfl, by rw [AN] at hl; exact hl, h1⟩
def tyNet : Ty := .st [.sl 9 .str, .sl 9 .str, .sl 22 (.sl 9 .str)]
theorem UH {x : AV} (h : isT tyNet x) : ∃ m : Ntw, x = m.av ∧ m.lens := by
 obtain ⟨xs, rfl, h⟩ := h
 obtain ⟨_, _, rfl, h1, _, _, rfl, h2, _, _, rfl, h3, rfl⟩ := h
 obtain ⟨a, rfl, ha⟩ := GY h1
 obtain ⟨s, rfl, hs⟩ := GY h2
 obtain ⟨r, rfl, hr, hr2⟩ := Ra h3
 exact ⟨⟨a, s, r⟩, rfl, ha, hs, hr, hr2⟩
abbrev Mx := Nat → Nat → Rat
def sumN (f : Nat → Rat) : Nat → Rat
 | 0 => 0
 | n + 1 => sumN f n + f n
theorem EL {f g : Nat → Rat} : ∀ {n : Nat}, (∀ i, i < n → f i = g i) → sumN f n = sumN g n
 | 0, _ => rfl
 | n + 1, h => by rw [sumN, sumN, EL fun i hi => h i zO, h n zO]
theorem JI {f : Nat → Rat} {n : Nat} (h : ∀ i, i < n → f i = 0) : sumN f n = 0 := by
 rw [EL (g := fun _ => 0) h]
 induction n with
 | zero => rfl
 | succ n ih => rw [sumN, ih (fun i hi => h i zO)]; exact Rat.add_zero 0
theorem Lf {f : Nat → Rat} {k : Nat} : ∀ {n : Nat}, k < n → (∀ i, i < n → i ≠ k → f i = 0) → sumN f n = f k
 | 0, h, _ => absurd h (Nat.not_lt_zero k)
 | n + 1, hk, h => by
  rw [sumN]
  by_cases e : k = n
  ·subst e; rw [JI fun i hi => h i zO zO, Rat.zero_add]
  ·rw [Lf (show k < n by omega) fun i hi hne => h i zO hne, h n zO (fun e' => e e'.symm), Rat.add_zero]
theorem Lg {f g : Nat → Rat} {c : Rat} : ∀ n, sumN (fun j => f j - c * g j) n = sumN f n - c * sumN g n
 | 0 => by simp only [sumN]; grind
 | n + 1 => by rw [sumN, sumN, sumN, Lg n]; grind
def swp (a : Mx) (k p : Nat) : Mx := fun i => if i = k then a p else if i = p then a k else a i
def pivF (a : Mx) (k : Nat) : Nat → Nat → Nat
 | 0, i => i
 | f + 1, i => if a i k = 0 then pivF a k f (i + 1) else i
def piv (a : Mx) (k n : Nat) : Nat := pivF a k (n - k) k
theorem JJ (a : Mx) (k : Nat) : ∀ f i, i ≤ pivF a k f i ∧ pivF a k f i ≤ i + f ∧ (∀ j, i ≤ j → j < pivF a k f i → a j k = 0) ∧ (pivF a k f i < i + f → a (pivF a k f i) k ≠ 0)
 | 0, i => ⟨Nat.le_refl _, by simp [pivF], fun j h1 h2 => by simp only [pivF] at h2; omega, fun h => by simp [pivF] at h⟩
 | f + 1, i => by
  rw [pivF]
  split
  ·rename_i h
   obtain ⟨h1, h2, h3, h4⟩ := JJ a k f (i + 1)
   refine ⟨zO, zO, fun j hj hl => ?_, fun hl => h4 zO⟩
   by_cases e : j = i
   ·rw [e]; exact h
   ·exact h3 j zO hl
  ·rename_i h
   exact ⟨Nat.le_refl _, zO, fun j h1 h2 => by omega, fun _ => h⟩
theorem F2 {a : Mx} {k n : Nat} (hk : k ≤ n) : k ≤ piv a k n ∧ piv a k n ≤ n ∧ (∀ j, k ≤ j → j < piv a k n → a j k = 0) ∧ (piv a k n < n → a (piv a k n) k ≠ 0) := by
 obtain ⟨h1, h2, h3, h4⟩ := JJ a k (n - k) k
 exact ⟨h1, by unfold piv; omega, h3, fun h => h4 (by unfold piv at h; omega)⟩
theorem IE {a : Mx} {k n i : Nat} (h1 : k ≤ i) (h2 : i ≤ n) (h3 : ∀ j, k ≤ j → j < i → a j k = 0) (h4 : i = n ∨ a i k ≠ 0) : piv a k n = i := by
 obtain ⟨k1, k2, k3, k4⟩ := F2 (a := a) (k := k) (n := n) zO
 rcases Nat.lt_trichotomy (piv a k n) i with h | h | h
 ·exact absurd (h3 _ k1 h) (k4 zO)
 ·exact h
 ·rcases h4 with rfl | h4
  ·omega
  ·exact absurd (k3 _ h1 h) h4
theorem PL {a b : Mx} {k n : Nat} (hk : k ≤ n) (h : ∀ i, k ≤ i → a i = b i) : piv a k n = piv b k n := by
 obtain ⟨k1, k2, k3, k4⟩ := F2 (a := b) (k := k) (n := n) hk
 refine IE k1 k2 (fun j h1 h2 => by rw [h j h1]; exact k3 j h1 h2) ?_
 by_cases e : piv b k n = n
 ·exact .inl e
 ·exact .inr (by rw [h _ k1]; exact k4 zO)
def elmI (a : Mx) (k : Nat) : Mx := fun i j => if k < i ∧ k ≤ j then a i j - a i k / a k k * a k j else a i j
def elmS (a : Mx) (k : Nat) : Mx := fun i j => if i ≠ k ∧ k ≤ j then a i j - a i k / a k k * a k j else a i j
def gI (a : Mx) (n : Nat) : Nat → Option Mx
 | 0 => some a
 | k + 1 => match gI a n k with
  | some u => if piv u k n = n then none else some (elmI (swp u k (piv u k n)) k)
  | none => none
def gS (a : Mx) (n : Nat) : Nat → Option Mx
 | 0 => some a
 | k + 1 => match gS a n k with
  | some u => if piv u k n = n then none else some (elmS (swp u k (piv u k n)) k)
  | none => none
def Slv (a : Mx) (n : Nat) (y : Nat → Rat) (i : Nat) : Prop := sumN (fun j => a i j * y j) n = a i n
def sbX (a : Mx) (y : Nat → Rat) (k : Nat) : Nat → Rat
 | 0 => y k
 | m + 1 => sbX a y k m - a k (k + 1 + m) * y (k + 1 + m)
def bk (a : Mx) (n : Nat) : Nat → Nat → Rat
 | 0 => fun i => a i n
 | t + 1 => fun i => if i = n - 1 - t then sbX a (bk a n t) (n - 1 - t) t / a (n - 1 - t) (n - 1 - t) else bk a n t i
structure Both (n k : Nat) (u w : Mx) : Prop where
 row : ∀ i, k ≤ i → u i = w i
 zer : ∀ j, j < k → ∀ i, i ≠ j → w i j = 0
 dia : ∀ j, j < k → w j j ≠ 0
 uzer : ∀ i, i < k → ∀ j, j < i → u i j = 0
 udia : ∀ i, i < k → u i i ≠ 0
 sol : ∀ y : Nat → Rat, (∀ i, i < n → Slv w n y i) → ∀ i, i < n → Slv u n y i
theorem BY {a : Mx} {k p i : Nat} : swp a k p i = a (if i = k then p else if i = p then k else i) := by
 unfold swp; split
 ·rfl
 ·split <;> rfl
theorem KB {a : Mx} {k i : Nat} (hi : i ≠ k) (hz : ∀ j, j < k → a k j = 0) (j : Nat) : elmS a k i j = a i j - a i k / a k k * a k j := by
 unfold elmS
 by_cases h : k ≤ j
 ·rw [if_pos ⟨hi, h⟩]
 ·rw [if_neg (fun h' => h h'.2), hz j zO]; grind
theorem PN {n k : Nat} {u w : Mx} (hk : k < n) (h : Both n k u w) : piv u k n = piv w k n ∧ (piv w k n ≠ n → Both n (k + 1) (elmI (swp u k (piv u k n)) k) (elmS (swp w k (piv w k n)) k)) := by
 have hp := PL (n := n) zO h.row
 refine ⟨hp, fun hne => ?_⟩
 rw [hp]
 obtain ⟨p1, p2, p3, p4⟩ := F2 (a := w) (k := k) (n := n) zO
 generalize piv w k n = p at *
 have p4 := p4 zO
 have hup : u p = w p := h.row p p1
 have huk : u k = w k := h.row k (Nat.le_refl _)
 have hkk : swp w k p k = w p := by unfold swp; rw [if_pos rfl]
 have hkku : swp u k p k = w p := by unfold swp; rw [if_pos rfl, hup]
 have hz : ∀ j, j < k → swp w k p k j = 0 := fun j hj => by rw [hkk]; exact h.zer j hj p zO
 have hd : swp w k p k k ≠ 0 := by rw [hkk]; exact p4
 have hsw : ∀ j, j < k → ∀ i, i ≠ j → swp w k p i j = 0 := fun j hj i hi => by
  rw [BY]
  split
  ·exact h.zer j hj p zO
  ·split
   ·exact h.zer j hj k zO
   ·exact h.zer j hj i hi
 have hlow : ∀ j, j < k → swp w k p j = w j := fun j hj => by rw [BY, if_neg zO, if_neg zO]
 have hlowu : ∀ j, j < k → swp u k p j = u j := fun j hj => by rw [BY, if_neg zO, if_neg zO]
 have back : ∀ y : Nat → Rat, (∀ i, i < n → Slv (elmS (swp w k p) k) n y i) → ∀ i, i < n → Slv w n y i := by
  intro y hy
  have hrow : Slv (swp w k p) n y k := by
   have := hy k hk
   unfold Slv at this ⊢
   have e : ∀ j, elmS (swp w k p) k k j = swp w k p k j := fun j => by unfold elmS; rw [if_neg (fun h => h.1 rfl)]
   simp only [e] at this
   exact this
  have hall : ∀ i, i < n → Slv (swp w k p) n y i := by
   intro i hi
   by_cases e : i = k
   ·rw [e]; exact hrow
   ·have h1 := hy i hi
    unfold Slv at h1 hrow ⊢
    rw [KB e hz] at h1
    have h2 : sumN (fun j => elmS (swp w k p) k i j * y j) n = sumN (fun j => swp w k p i j * y j - swp w k p i k / swp w k p k k * (swp w k p k j * y j)) n :=
     EL fun j _ => by rw [KB e hz]; grind
    rw [h2, Lg, hrow] at h1
    grind
  intro i hi
  by_cases e : i = k
  ·have := hall p zO
   unfold Slv at this ⊢
   rw [BY] at this
   subst e
   by_cases ep : p = i
   ·subst ep; simpa using this
   ·simpa [ep] using this
  ·by_cases ep : i = p
   ·have := hall k hk
    unfold Slv at this ⊢
    rw [BY, if_pos rfl] at this
    rw [ep]; exact this
   ·have := hall i hi
    unfold Slv at this ⊢
    rw [BY, if_neg e, if_neg ep] at this
    exact this
 refine ⟨fun i hi => ?_, fun j hj i hi => ?_, fun j hj => ?_, fun i hi j hj => ?_, fun i hi => ?_, fun y hy i hi => ?_⟩
 ·funext j
  have e1 : swp u k p i = swp w k p i := by
   rw [BY, BY]
   split
   ·exact hup
   ·split
    ·exact huk
    ·exact h.row i zO
  have e2 : swp u k p k = swp w k p k := by rw [hkku, hkk]
  unfold elmI elmS
  rw [e1, e2]
  by_cases c : k ≤ j
  ·rw [if_pos ⟨zO, c⟩, if_pos ⟨zO, c⟩]
  ·rw [if_neg (fun h => c h.2), if_neg (fun h => c h.2)]
 ·by_cases e : j = k
  ·subst e
   rw [KB hi hz]
   grind
  ·unfold elmS
   rw [if_neg (fun h => by omega)]
   exact hsw j zO i hi
 ·by_cases e : j = k
  ·subst e
   unfold elmS
   rw [if_neg (fun h => h.1 rfl)]
   exact hd
  ·unfold elmS
   rw [if_neg (fun h => by omega), hlow j zO]
   exact h.dia j zO
 ·unfold elmI
  rw [if_neg (fun h => by omega)]
  by_cases e : i = k
  ·subst e; rw [hkku]; exact h.zer j hj p zO
  ·rw [hlowu i zO]; exact h.uzer i zO j hj
 ·unfold elmI
  rw [if_neg (fun h => by omega)]
  by_cases e : i = k
  ·subst e; rw [hkku]; exact p4
  ·rw [hlowu i zO]; exact h.udia i zO
 ·have hw := back y hy
  by_cases c : k < i
  ·-- row i is that of w'
   have := hy i hi
   have er : elmI (swp u k p) k i = elmS (swp w k p) k i := by
    funext j
    have e1 : swp u k p i = swp w k p i := by
     rw [BY, BY]
     split
     ·exact hup
     ·split
      ·exact huk
      ·exact h.row i zO
    have e2 : swp u k p k = swp w k p k := by rw [hkku, hkk]
    unfold elmI elmS
    rw [e1, e2]
    by_cases c : k ≤ j
    ·rw [if_pos ⟨zO, c⟩, if_pos ⟨zO, c⟩]
    ·rw [if_neg (fun h => c h.2), if_neg (fun h => c h.2)]
   unfold Slv at this ⊢
   rw [er]; exact this
  ·have er : elmI (swp u k p) k i = swp u k p i := by
    funext j
    unfold elmI
    rw [if_neg (fun h => c h.1)]
   have hu := h.sol y hw
   unfold Slv
   rw [er]
   by_cases e : i = k
   ·rw [e, hkku]; exact hw p zO
   ·rw [hlowu i zO]; exact hu i hi
theorem El (a : Mx) {n : Nat} : ∀ k, k ≤ n → match gI a n k, gS a n k with
  | some u, some w => Both n k u w
  | none, none => True
  | _, _ => False
 | 0, _ => ⟨fun _ _ => rfl, fun j hj => absurd hj (Nat.not_lt_zero j), fun j hj => absurd hj (Nat.not_lt_zero j), fun j hj => absurd hj (Nat.not_lt_zero j), fun j hj => absurd hj (Nat.not_lt_zero j), fun _ h => h⟩
 | k + 1, hk => by
  have ih := El a (n := n) k zO
  rw [gI, gS]
  cases hu : gI a n k with
  | none =>
   cases hw : gS a n k with
   | none => trivial
   | some w => rw [hu, hw] at ih; exact ih.elim
  | some u =>
   cases hw : gS a n k with
   | none => rw [hu, hw] at ih; exact ih.elim
   | some w =>
    rw [hu, hw] at ih
    obtain ⟨h1, h2⟩ := PN (n := n) (k := k) zO ih
    simp only
    by_cases e : piv w k n = n
    ·rw [if_pos (h1.trans e), if_pos e]; trivial
    ·rw [if_neg (fun h => e (h1.symm.trans h)), if_neg e]; exact h2 e
theorem Nm {a : Mx} {y : Nat → Rat} {k : Nat} : ∀ m, sbX a y k m = y k - (sumN (fun j => a k j * y j) (k + 1 + m) - sumN (fun j => a k j * y j) (k + 1))
 | 0 => by rw [sbX, Nat.add_zero]; grind
 | m + 1 => by
  have e : sumN (fun j => a k j * y j) (k + 1 + (m + 1)) = sumN (fun j => a k j * y j) (k + 1 + m) + a k (k + 1 + m) * y (k + 1 + m) := by rw [← Nat.add_assoc (k + 1) m 1, sumN]
  rw [sbX, Nm m, e]
  generalize sumN (fun j => a k j * y j) (k + 1 + m) = A
  generalize sumN (fun j => a k j * y j) (k + 1) = B
  grind
theorem JK {a : Mx} {y z : Nat → Rat} {k : Nat} (h0 : y k = z k) : ∀ m, (∀ j, k < j → j < k + 1 + m → y j = z j) → sbX a y k m = sbX a z k m
 | 0, _ => h0
 | m + 1, h => by rw [sbX, sbX, JK h0 m (fun j h1 h2 => h j h1 zO), h (k + 1 + m) zO zO]
theorem Rb {u : Mx} {n : Nat} {y : Nat → Rat} (hz : ∀ i, i < n → ∀ j, j < i → u i j = 0) (hd : ∀ i, i < n → u i i ≠ 0) (hs : ∀ i, i < n → Slv u n y i) : ∀ t, t ≤ n → (∀ i, i < n → bk u n t i = if n - t ≤ i then y i else u i n)
 | 0, _, i, hi => by rw [if_neg zO, bk]
 | t + 1, ht, i, hi => by
  have ih := Rb hz hd hs t zO
  rw [bk]
  simp only
  by_cases e : i = n - 1 - t
  ·rw [if_pos e, if_pos zO, ← e]
   have h1 : sbX u (bk u n t) i t = sbX u (fun j => if j = i then u i n else y j) i t := by
    refine JK ?_ t fun j h1 h2 => ?_
    ·rw [ih i hi, if_neg zO]; simp
    ·rw [ih j zO, if_pos zO, if_neg zO]
   have h2 := Nm (a := u) (y := fun j => if j = i then u i n else y j) (k := i) t
   simp only [if_true] at h2
   have h3 := hs i hi
   unfold Slv at h3
   have en : i + 1 + t = n := by omega
   rw [en] at h2
   have h4 : ∀ m, i + 1 ≤ m → sumN (fun j => u i j * (if j = i then u i n else y j)) m = sumN (fun j => u i j * y j) m - u i i * y i + u i i * u i n := by
    intro m
    induction m with
    | zero => intro h; omega
    | succ m ihm =>
     intro h
     rw [sumN, sumN]
     by_cases em : m = i
     ·subst em
      rw [EL (g := fun j => u m j * y j) (fun j hj => by rw [if_neg zO]), if_pos rfl]; grind
     ·rw [ihm zO, if_neg em]; grind
   have h5 : sumN (fun j => u i j * y j) (i + 1) = u i i * y i := by
    rw [sumN, JI (fun j hj => by rw [hz i hi j hj]; grind)]; grind
   rw [h1, h2, h4 n zO, h4 (i + 1) (Nat.le_refl _), h5, h3]
   have := hd i hi
   grind
  ·rw [if_neg e, ih i hi]
   by_cases c : n - t ≤ i
   ·rw [if_pos c, if_pos zO]
   ·rw [if_neg c, if_neg zO]
theorem UI {w : Mx} {n : Nat} (hz : ∀ j, j < n → ∀ i, i ≠ j → w i j = 0) (hd : ∀ j, j < n → w j j ≠ 0) : ∀ i, i < n → Slv w n (fun i => w i n / w i i) i := by
 intro i hi
 unfold Slv
 rw [Lf (k := i) hi (fun j hj hne => by rw [hz j hj i (fun e => hne e.symm)]; grind)]
 have := hd i hi
 grind
theorem Rc (a : Mx) (n : Nat) : match gI a n n, gS a n n with
  | some u, some w => ∀ i, i < n → bk u n n i = w i n / w i i
  | none, none => True
  | _, _ => False := by
 have h := El a (n := n) n (Nat.le_refl _)
 cases hu : gI a n n with
 | none =>
  cases hw : gS a n n with
  | none => trivial
  | some w => rw [hu, hw] at h; exact h.elim
 | some u =>
  cases hw : gS a n n with
  | none => rw [hu, hw] at h; exact h.elim
  | some w =>
   rw [hu, hw] at h
   intro i hi
   have := Rb h.uzer h.udia (h.sol _ (UI h.zer h.dia)) n (Nat.le_refl _) i hi
   rw [this, if_pos zO]
def cd (D N : Nat) (q : Rat) : Prop := D ≠ 0 ∧ ∃ p : Int, q = mkRat p D ∧ p.natAbs ≤ N
theorem Nn {D N N' : Nat} {q : Rat} (h : cd D N q) (hn : N ≤ N') : cd D N' q := by
 obtain ⟨h1, p, h2, h3⟩ := h
 exact ⟨h1, p, h2, Nat.le_trans h3 hn⟩
theorem Np {D E N : Nat} {q : Rat} (h : cd D N q) (he : E ≠ 0) : cd (D * E) (N * E) q := by
 obtain ⟨h1, p, rfl, h3⟩ := h
 refine ⟨Nat.mul_ne_zero h1 he, p * E, (Rat.mkRat_mul_right he).symm, ?_⟩
 rw [Int.natAbs_mul, Int.natAbs_natCast]
 exact Nat.mul_le_mul_right _ h3
theorem X7 {m : Nat} {q : Rat} (h : fits m q) : cd q.den (2 ^ m) q := ⟨q.den_nz, q.num, (Rat.mkRat_self q).symm, Nat.le_of_lt h.1⟩
theorem Nq {m : Nat} : ∀ (qs : List Rat), (∀ q ∈ qs, fits m q) → ∃ D, D ≠ 0 ∧ D ≤ 2 ^ (m * qs.length) ∧ ∀ q ∈ qs, cd D (2 ^ (m * qs.length + m)) q
 | [], _ => ⟨1, zD, zS, zS⟩
 | a :: qs, h => by
  obtain ⟨D, h1, h2, h3⟩ := Nq qs fun q hq => h q (by simp [hq])
  have ha := h a zS
  have e : m * (a :: qs).length = m + m * qs.length := by rw [List.length_cons, Nat.mul_succ]; omega
  refine ⟨a.den * D, Nat.mul_ne_zero a.den_nz h1, ?_, fun q hq => ?_⟩
  ·rw [e, Nat.pow_add]
   exact Nat.mul_le_mul (Nat.le_of_lt ha.2) h2
  ·rw [e]
   rcases List.mem_cons.1 hq with rfl | hq
   ·refine Nn (Np (X7 ha) h1) ?_
    rw [show m + m * qs.length + m = m + (m * qs.length + m) by omega, Nat.pow_add]
    exact Nat.mul_le_mul (Nat.le_refl _) (Nat.le_trans h2 (Nat.pow_le_pow_right zD zO))
   ·have := Np (h3 q hq) (E := a.den) a.den_nz
    rw [Nat.mul_comm] at this
    refine Nn this ?_
    rw [show m + m * qs.length + m = (m * qs.length + m) + m by omega, Nat.pow_add 2 (m * qs.length + m) m]
    exact Nat.mul_le_mul (Nat.le_refl _) (Nat.le_of_lt ha.2)
theorem WU {q : Rat} (h : q ≠ 0) : q.num ≠ 0 := fun e => h (Rat.num_eq_zero.1 e)
def FitM (m : Nat) (a : Mx) (r c : Nat) : Prop := ∀ i j, i < r → j < c → fits m (a i j)
theorem FitM.mono {m m' r c : Nat} {a : Mx} (h : FitM m a r c) (hm : m ≤ m') : FitM m' a r c := fun i j hi hj => Az (h i j hi hj) hm
theorem FitM.swp {m r c k p : Nat} {a : Mx} (h : FitM m a r c) (hk : k < r) (hp : p < r) : FitM m (swp a k p) r c := fun i j hi hj => by
 rw [BY]; split
 ·exact h p j hp hj
 ·split
  ·exact h k j hk hj
  ·exact h i j hi hj
def RowF (B : Nat) (r : Nat → Rat) (c : Nat) : Prop := ∃ s : Nat, s ≠ 0 ∧ s < 2 ^ B ∧ ∀ j, j < c → ∃ p : Int, r j = mkRat p s ∧ p.natAbs < 2 ^ B
theorem RowF.mono {B B' c : Nat} {r : Nat → Rat} (h : RowF B r c) (hB : B ≤ B') : RowF B' r c := by
 obtain ⟨s, h1, h2, h3⟩ := h
 have hp : 2 ^ B ≤ 2 ^ B' := Nat.pow_le_pow_right zD hB
 exact ⟨s, h1, zO, fun j hj => by obtain ⟨p, k1, k2⟩ := h3 j hj; exact ⟨p, k1, zO⟩⟩
theorem Mp {a b n : Nat} (ha : a < 2 ^ n) (hb : b < 2 ^ n) : a + b < 2 ^ (n + 1) := by rw [Nat.pow_succ]; omega
theorem Rd {pj pk qk qj s t e : Rat} (hs : s ≠ 0) (ht : t ≠ 0) (hq : qk ≠ 0) (he : e ≠ 0) : pj / s - pk / s / (qk / t) * (qj / t) = e * (pj * qk - pk * qj) / (s * (qk * e)) := by grind
theorem UJ {pj pk qk qj : Int} {si sk : Nat} (hs : si ≠ 0) (ht : sk ≠ 0) (hq : qk ≠ 0) : mkRat pj si - mkRat pk si / mkRat qk sk * mkRat qj sk = mkRat (qk.sign * (pj * qk - pk * qj)) (si * qk.natAbs) := by
 rw [Rat.mkRat_eq_div, Rat.mkRat_eq_div, Rat.mkRat_eq_div, Rat.mkRat_eq_div, Rat.mkRat_eq_div]
 have h1 : (si : Rat) ≠ 0 := by simpa using hs
 have h2 : (sk : Rat) ≠ 0 := by simpa using ht
 have h3 : (qk : Rat) ≠ 0 := by simpa using hq
 have h4 : ((qk.sign : Int) : Rat) ≠ 0 := by simpa using hq
 have e : ((si * qk.natAbs : Nat) : Rat) = (si : Rat) * ((qk : Rat) * ((qk.sign : Int) : Rat)) := by
  have h := congrArg (fun z : Int => (z : Rat)) (Int.mul_sign_self qk)
  simp only [Rat.intCast_mul] at h
  rw [h, Rat.natCast_mul]
  rfl
 rw [e, Rat.intCast_mul, Rat.intCast_sub, Rat.intCast_mul, Rat.intCast_mul]
 exact Rd h1 h2 h3 h4
theorem RowF.elm {B c k : Nat} {ri rk : Nat → Rat} (hi : RowF B ri c) (hk : RowF B rk c) (hc : k < c) (h0 : rk k ≠ 0) : RowF (2 * B + 1) (fun j => if k ≤ j then ri j - ri k / rk k * rk j else ri j) c := by
 obtain ⟨s, s0, s1, s2⟩ := hi
 obtain ⟨t, t0, t1, t2⟩ := hk
 obtain ⟨qk, eqk, lqk⟩ := t2 k hc
 obtain ⟨pk, epk, lpk⟩ := s2 k hc
 have hq : qk ≠ 0 := fun e => h0 (by rw [eqk, e]; exact Rat.zero_mkRat t)
 have hqa : qk.natAbs ≠ 0 := by omega
 have hm : s * qk.natAbs < 2 ^ (B + B) := AW s1 lqk
 have hup : 2 ^ (B + B) ≤ 2 ^ (2 * B + 1) := Nat.pow_le_pow_right zD zO
 refine ⟨s * qk.natAbs, Nat.mul_ne_zero s0 hqa, zO, fun j hj => ?_⟩
 obtain ⟨pj, epj, lpj⟩ := s2 j hj
 obtain ⟨qj, eqj, lqj⟩ := t2 j hj
 by_cases c : k ≤ j
 ·refine ⟨qk.sign * (pj * qk - pk * qj), ?_, ?_⟩
  ·simp only [if_pos c]
   rw [epj, epk, eqk, eqj]
   exact UJ s0 t0 hq
  ·have e1 : (qk.sign * (pj * qk - pk * qj)).natAbs = (pj * qk - pk * qj).natAbs := by
    rw [Int.natAbs_mul, Int.natAbs_sign_of_ne_zero hq, Nat.one_mul]
   rw [e1]
   have e2 := Int.natAbs_sub_le (pj * qk) (pk * qj)
   rw [Int.natAbs_mul, Int.natAbs_mul] at e2
   have m1 := AW lpj lqk
   have m2 := AW lpk lqj
   have := Mp m1 m2
   rw [show B + B + 1 = 2 * B + 1 by omega] at this
   omega
 ·refine ⟨pj * qk.natAbs, ?_, ?_⟩
  ·simp only [if_neg c]
   rw [epj]
   exact (Rat.mkRat_mul_right hqa).symm
  ·rw [Int.natAbs_mul, Int.natAbs_natCast]
   have := AW lpj lqk
   omega
def RowM (B : Nat) (a : Mx) (n c : Nat) : Prop := ∀ i, i < n → RowF B (a i) c
theorem RowM.mono {B B' n c : Nat} {a : Mx} (h : RowM B a n c) (hB : B ≤ B') : RowM B' a n c := fun i hi => (h i hi).mono hB
theorem RowM.fit {B n c : Nat} {a : Mx} (h : RowM B a n c) (hB : 0 < B) : FitM B a n c := fun i j hi hj => by
 obtain ⟨s, h1, h2, h3⟩ := h i hi
 obtain ⟨p, k1, k2⟩ := h3 j hj
 rw [k1]
 exact FW k2 h2 hB
theorem FitM.row {m n c : Nat} {a : Mx} (h : FitM m a n c) : RowM (m * (c + 1) + 1) a n c := fun i hi => by
 obtain ⟨D, h1, h2, h3⟩ := Nq (m := m) ((List.range c).map (a i)) (fun q hq => by
  obtain ⟨j, hj, rfl⟩ := List.mem_map.1 hq
  exact h i j hi (List.mem_range.1 hj))
 have hl : ((List.range c).map (a i)).length = c := by simp
 rw [hl] at h2 h3
 have e : m * (c + 1) = m * c + m := by rw [Nat.mul_succ]
 refine ⟨D, h1, Nat.lt_of_le_of_lt h2 (Nat.pow_lt_pow_right zD zO), fun j hj => ?_⟩
 obtain ⟨_, p, k1, k2⟩ := h3 (a i j) (List.mem_map.2 ⟨j, List.mem_range.2 hj, rfl⟩)
 exact ⟨p, k1, Nat.lt_of_le_of_lt k2 (Nat.pow_lt_pow_right zD zO)⟩
theorem RowM.swp {B n c k p : Nat} {a : Mx} (h : RowM B a n c) (hk : k < n) (hp : p < n) : RowM B (swp a k p) n c := fun i hi => by
 rw [BY]; split
 ·exact h p hp
 ·split
  ·exact h k hk
  ·exact h i hi
theorem RowM.elmI {B n c k : Nat} {a : Mx} (h : RowM B a n c) (hk : k < n) (hc : k < c) (h0 : a k k ≠ 0) : RowM (2 * B + 1) (elmI a k) n c := fun i hi => by
 by_cases e : k < i
 ·have : Go.Proofs.YthiddlfddncbmaaGreatDoor.elmI a k i = fun j => if k ≤ j then a i j - a i k / a k k * a k j else a i j := by
   funext j; unfold Go.Proofs.YthiddlfddncbmaaGreatDoor.elmI; simp only [e, true_and]
  rw [this]
  exact (h i hi).elm (h k hk) hc h0
 ·have : Go.Proofs.YthiddlfddncbmaaGreatDoor.elmI a k i = a i := by funext j; unfold Go.Proofs.YthiddlfddncbmaaGreatDoor.elmI; rw [if_neg (fun h => e h.1)]
  rw [this]
  exact (h i hi).mono zO
theorem RowM.elmS {B n c k : Nat} {a : Mx} (h : RowM B a n c) (hk : k < n) (hc : k < c) (h0 : a k k ≠ 0) : RowM (2 * B + 1) (elmS a k) n c := fun i hi => by
 by_cases e : i ≠ k
 ·have : Go.Proofs.YthiddlfddncbmaaGreatDoor.elmS a k i = fun j => if k ≤ j then a i j - a i k / a k k * a k j else a i j := by
   funext j; unfold Go.Proofs.YthiddlfddncbmaaGreatDoor.elmS; simp only [e, ne_eq, not_false_eq_true, true_and]
  rw [this]
  exact (h i hi).elm (h k hk) hc h0
 ·have : Go.Proofs.YthiddlfddncbmaaGreatDoor.elmS a k i = a i := by funext j; unfold Go.Proofs.YthiddlfddncbmaaGreatDoor.elmS; rw [if_neg (fun h => e h.1)]
  rw [this]
  exact (h i hi).mono zO
def gB (m : Nat) : Nat → Nat
 | 0 => m
 | k + 1 => 2 * gB m k + 1
theorem KC {m : Nat} : ∀ {k l : Nat}, k ≤ l → gB m k ≤ gB m l
  | k, 0, h => by obtain rfl : k = 0 := by omega
                  exact Nat.le_refl _
  | k, l + 1, h => by
    rcases Nat.lt_or_ge l k with h1 | h1
    · obtain rfl : k = l + 1 := by omega
      exact Nat.le_refl _
    · have := KC (m := m) h1
      rw [gB]; omega
theorem Nr {a : Mx} {k n : Nat} (hk : k < n) (h : piv a k n ≠ n) : piv a k n < n ∧ swp a k (piv a k n) k k ≠ 0 := by
 obtain ⟨h1, h2, h3, h4⟩ := F2 (a := a) (k := k) (n := n) zO
 refine ⟨zO, ?_⟩
 rw [BY, if_pos rfl]
 exact h4 zO
theorem Re {a : Mx} {n m c : Nat} (ha : RowM m a n c) (hc : n ≤ c) : ∀ k, k ≤ n → ∀ u, gI a n k = some u → RowM (gB m k) u n c
 | 0, _, u, h => by simp only [gI, Option.some.injEq] at h; subst h; exact ha
 | k + 1, hk, u, h => by
  rw [gI] at h
  cases hv : gI a n k with
  | none => rw [hv] at h; cases h
  | some v =>
   rw [hv] at h
   simp only at h
   split at h
   ·cases h
   ·rename_i hne
    cases h
    obtain ⟨h1, h2⟩ := Nr (a := v) (k := k) (n := n) zO hne
    exact ((Re ha hc k zO v hv).swp zO h1).elmI zO zO h2
theorem Rf {a : Mx} {n m c : Nat} (ha : RowM m a n c) (hc : n ≤ c) : ∀ k, k ≤ n → ∀ u, gS a n k = some u → RowM (gB m k) u n c
 | 0, _, u, h => by simp only [gS, Option.some.injEq] at h; subst h; exact ha
 | k + 1, hk, u, h => by
  rw [gS] at h
  cases hv : gS a n k with
  | none => rw [hv] at h; cases h
  | some v =>
   rw [hv] at h
   simp only at h
   split at h
   ·cases h
   ·rename_i hne
    cases h
    obtain ⟨h1, h2⟩ := Nr (a := v) (k := k) (n := n) zO hne
    exact ((Rf ha hc k zO v hv).swp zO h1).elmS zO zO h2
def bY (U : Nat) : Nat → Nat
 | 0 => 0
 | t + 1 => 2 * bY U t + 3 * U + 1
theorem KD {U : Nat} : ∀ {s t : Nat}, s ≤ t → bY U s ≤ bY U t
  | s, 0, h => by obtain rfl : s = 0 := by omega
                  exact Nat.le_refl _
  | s, t + 1, h => by
    rcases Nat.lt_or_ge t s with h1 | h1
    · obtain rfl : s = t + 1 := by omega
      exact Nat.le_refl _
    · have := KD (U := U) h1
      rw [bY]; omega
theorem KE {u : Mx} {n U t : Nat} {y : Nat → Rat} (hu : FitM U u n (n + 1)) (ht : t < n) (h0 : fits U (y (n - 1 - t))) (hy : ∀ j, n - t ≤ j → j < n → fits (2 * U + bY U (n - 1 - j)) (y j)) :
  ∀ m, m ≤ t → fits (U + (bY U t - bY U (t - m))) (sbX u y (n - 1 - t) m)
 | 0, _ => by rw [sbX, Nat.sub_zero, Nat.sub_self, Nat.add_zero]; exact h0
 | m + 1, hm => by
  have ih := KE hu ht h0 hy m zO
  have h1 := hu (n - 1 - t) (n - 1 - t + 1 + m) zO zO
  have h2 := hy (n - 1 - t + 1 + m) zO zO
  rw [show n - 1 - (n - 1 - t + 1 + m) = t - (m + 1) by omega] at h2
  have h3 := RO ih (Ed h1 h2 (Eh h1))
  have e : bY U (t - m) = 2 * bY U (t - (m + 1)) + 3 * U + 1 := by rw [show t - m = t - (m + 1) + 1 by omega, bY]
  have k1 : bY U (t - m) ≤ bY U t := KD zO
  rw [sbX]
  exact Az h3 zO
theorem Mq {u : Mx} {n U : Nat} (hu : FitM U u n (n + 1)) (hd : ∀ i, i < n → u i i ≠ 0) : ∀ t, t ≤ n → (∀ i, i < n → n - t ≤ i → fits (2 * U + bY U (n - 1 - i)) (bk u n t i)) ∧ ∀ i, i < n - t → fits U (bk u n t i)
 | 0, _ => ⟨fun i h1 h2 => by omega, fun i hi => by rw [bk]; exact hu i n zO zO⟩
 | t + 1, ht => by
  obtain ⟨h1, h2⟩ := Mq hu hd t zO
  refine ⟨fun i hi hl => ?_, fun i hi => ?_⟩
  ·rw [bk]
   simp only
   by_cases e : i = n - 1 - t
   ·rw [if_pos e, e]
    have h3 := KE (y := bk u n t) hu (by omega : t < n) (h2 _ zO) (fun j hj hjn => h1 j hjn hj) t (Nat.le_refl _)
    have h4 := I4 h3 (hu (n - 1 - t) (n - 1 - t) zO zO) (WU (hd _ zO))
    exact Az h4 (by rw [show n - 1 - (n - 1 - t) = t by omega]; omega)
   ·rw [if_neg e]; exact h1 i hi zO
  ·rw [bk]
   simp only
   rw [if_neg zO]
   exact h2 i zO
theorem De {n p : Nat} {f : Nat → Rat} {v : Rat} : (mapF n f).set p v = mapF n (fun k => if k = p then v else f k) := by
 apply List.ext_getElem
 ·simp [mapF]
 ·intro i h1 h2
  simp only [mapF, List.getElem_set, List.getElem_map, List.getElem_range]
  by_cases e : p = i
  ·rw [if_pos e, if_pos e.symm]
  ·rw [if_neg e, if_neg (fun h => e h.symm)]
theorem JL (m : Nat) (hm : 0 < m) : fits m 0 := Eg (n := 0) (by simpa using Nat.pow_pos zD) hm
def upd2 (u : Mx) (i j : Nat) (v : Rat) : Mx := fun i' j' => if i' = i ∧ j' = j then v else u i' j'
theorem Rg {u : Mx} {i j c : Nat} {v : Rat} : (mapF c (u i)).set j v = mapF c (upd2 u i j v i) := by
 rw [De]
 refine Bi fun k _ => ?_
 unfold upd2
 by_cases e : k = j
 ·subst e; rw [if_pos rfl, if_pos ⟨rfl, rfl⟩]
 ·rw [if_neg e, if_neg (fun h => e h.2)]
theorem Mr {u : Mx} {i j i' : Nat} {v : Rat} (h : i' ≠ i) : upd2 u i j v i' = u i' := by
 funext j'; unfold upd2; rw [if_neg (fun h' => h h'.1)]
theorem Lh {u : Mx} {i j c : Nat} {v : Rat} : (mapF c (fun i' => u i' j)).set i v = mapF c (fun i' => upd2 u i j v i' j) := by
 rw [De]
 refine Bi fun k _ => ?_
 unfold upd2
 by_cases e : k = i
 ·subst e; rw [if_pos rfl, if_pos ⟨rfl, rfl⟩]
 ·rw [if_neg e, if_neg (fun h => e h.1)]
def pel (u : Mx) (k : Nat) (s : Nat → Bool) (i j0 : Nat) : Mx := fun i' j' => if (s i' = true ∨ i' = i ∧ j' < j0) ∧ k ≤ j' then u i' j' - u i' k / u k k * u k j' else u i' j'
theorem IF {u : Mx} {k i j0 : Nat} {s : Nat → Bool} (hs : s i = false) (hk : k ≤ j0) : upd2 (pel u k s i j0) i j0 (u i j0 - u i k / u k k * u k j0) = pel u k s i (j0 + 1) := by
 funext i' j'
 unfold upd2 pel
 by_cases h : i' = i ∧ j' = j0
 ·obtain ⟨rfl, rfl⟩ := h
  rw [if_pos ⟨rfl, rfl⟩, if_pos ⟨.inr ⟨rfl, zO⟩, hk⟩]
 ·rw [if_neg h]
  by_cases c : (s i' = true ∨ i' = i ∧ j' < j0) ∧ k ≤ j'
  ·rw [if_pos c, if_pos ⟨c.1.imp id fun h => ⟨h.1, zO⟩, c.2⟩]
  ·rw [if_neg c, if_neg]
   rintro ⟨h1 | ⟨h1, h2⟩, h3⟩
   ·exact c ⟨.inl h1, h3⟩
   ·exact c ⟨.inr ⟨h1, zO⟩, h3⟩
theorem F3 {u : Mx} {k i j0 j : Nat} {s : Nat → Bool} (hs : s i = false) (hj : j0 ≤ j) : pel u k s i j0 i j = u i j := by
 unfold pel; rw [if_neg]
 rintro ⟨h1 | ⟨_, h2⟩, _⟩
 ·rw [hs] at h1; cases h1
 ·omega
theorem D7 {u : Mx} {k i j0 : Nat} {s : Nat → Bool} (hs : s k = false) (hi : i ≠ k) : pel u k s i j0 k = u k := by
 funext j; unfold pel; rw [if_neg]
 rintro ⟨h1 | ⟨h2, _⟩, _⟩
 ·rw [hs] at h1; cases h1
 ·exact hi h2.symm
theorem DP {u : Mx} {k i i2 : Nat} {s : Nat → Bool} : pel u k s i k = pel u k s i2 k := by
 funext i' j'
 unfold pel
 by_cases h : s i' = true ∧ k ≤ j'
 ·rw [if_pos ⟨.inl h.1, h.2⟩, if_pos ⟨.inl h.1, h.2⟩]
 ·rw [if_neg, if_neg] <;> rintro ⟨h1 | ⟨_, h2⟩, h3⟩ <;> first | exact h ⟨h1, h3⟩ | omega
theorem IG {u : Mx} {k i c : Nat} {s t : Nat → Bool} (ht : ∀ i', t i' = true ↔ (s i' = true ∨ i' = i)) (i' j' : Nat) (hj : j' < c) : pel u k s i c i' j' = pel u k t i k i' j' := by
 unfold pel
 by_cases h : (s i' = true ∨ i' = i) ∧ k ≤ j'
 ·rw [if_pos ⟨h.1.imp id fun e => ⟨e, hj⟩, h.2⟩, if_pos ⟨.inl ((ht i').2 h.1), h.2⟩]
 ·rw [if_neg, if_neg]
  ·rintro ⟨h1 | ⟨_, h2⟩, h3⟩
   ·exact h ⟨(ht i').1 h1, h3⟩
   ·omega
  ·rintro ⟨h1 | ⟨h1, _⟩, h3⟩
   ·exact h ⟨.inl h1, h3⟩
   ·exact h ⟨.inr h1, h3⟩
theorem Li {u : Mx} {k i : Nat} {s t : Nat → Bool} (ht : ∀ i', t i' = true ↔ (s i' = true ∨ i' = i)) (h0 : u i k = 0) : pel u k s i k = pel u k t i k := by
 funext i' j'
 unfold pel
 by_cases h : s i' = true ∧ k ≤ j'
 ·rw [if_pos ⟨.inl h.1, h.2⟩, if_pos ⟨.inl ((ht i').2 (.inl h.1)), h.2⟩]
 ·rw [if_neg (by rintro ⟨h1 | ⟨_, h2⟩, h3⟩; exact h ⟨h1, h3⟩; omega)]
  by_cases e : i' = i ∧ k ≤ j'
  ·obtain ⟨rfl, hk⟩ := e
   rw [if_pos ⟨.inl ((ht i').2 (.inr rfl)), hk⟩, h0]; grind
  ·rw [if_neg]
   rintro ⟨h1 | ⟨_, h2⟩, h3⟩
   ·rcases (ht i').1 h1 with h4 | h4
    ·exact h ⟨h4, h3⟩
    ·exact e ⟨h4, h3⟩
   ·omega
theorem JM {u : Mx} {k i : Nat} : pel u k (fun _ => false) i k = u := by
 funext i' j'; unfold pel; rw [if_neg]; rintro ⟨h1 | ⟨_, h2⟩, h3⟩
 ·cases h1
 ·omega
structure MatH (T t : Nat) (L : List Rat → List AV) (h : Nat → Blk) (o : Nat) (rid : Nat → Nat) (n c : Nat) (u : Mx) (e1 e2 : Bool) : Prop where
 outer : h o = ⟨T, refsL rid n c, e2, true, true⟩
 row : ∀ i, i < n → h (rid i) = ⟨t, L (mapF c (u i)), e1, true, true⟩
 inj : ∀ i j, i < n → j < n → rid i = rid j → i = j
 apart : ∀ i, i < n → rid i ≠ o
section
variable {T t : Nat} {L : List Rat → List AV} {h : Nat → Blk} {o : Nat} {rid : Nat → Nat} {n c : Nat} {u w : Mx} {e1 e2 : Bool}
theorem MatH.put {i j : Nat} {v : Rat} {x : AV} (hL : (L (mapF c (u i))).set j x = L ((mapF c (u i)).set j v)) (hm : MatH T t L h o rid n c u e1 e2) (hi : i < n) :
  MatH T t L (upd h (rid i) ⟨t, (L (mapF c (u i))).set j x, e1, true, true⟩) o rid n c (upd2 u i j v) e1 e2 := by
 refine ⟨by rw [AA, if_neg (fun e => hm.apart i hi e.symm)]; exact hm.outer, fun k hk => ?_, hm.inj, hm.apart⟩
 rw [AA]
 by_cases e : rid k = rid i
 ·obtain rfl := hm.inj k i hk hi e
  rw [if_pos rfl, hL, Rg]
 ·rw [if_neg e, hm.row k hk, Mr (fun h => e (by rw [h]))]
theorem MatH.other {id : Nat} {b : Blk} (hm : MatH T t L h o rid n c u e1 e2) (ho : id ≠ o) (hr : ∀ i, i < n → id ≠ rid i) : MatH T t L (upd h id b) o rid n c u e1 e2 :=
 ⟨by rw [AA, if_neg (fun e => ho e.symm)]; exact hm.outer, fun k hk => by rw [AA, if_neg (fun e => hr k hk e.symm)]; exact hm.row k hk, hm.inj, hm.apart⟩
theorem MatH.congr (hm : MatH T t L h o rid n c u e1 e2) (he : ∀ i j, i < n → j < c → u i j = w i j) : MatH T t L h o rid n c w e1 e2 :=
 ⟨hm.outer, fun k hk => by rw [hm.row k hk, Bi fun j hj => he k j hk hj], hm.inj, hm.apart⟩
theorem MatH.of_eq {h' : Nat → Blk} (hm : MatH T t L h o rid n c u e1 e2) (ho : h' o = h o) (hr : ∀ i, i < n → h' (rid i) = h (rid i)) : MatH T t L h' o rid n c u e1 e2 :=
 ⟨by rw [ho]; exact hm.outer, fun k hk => by rw [hr k hk]; exact hm.row k hk, hm.inj, hm.apart⟩
def swR (rid : Nat → Nat) (k p : Nat) : Nat → Nat := fun j => if j = p then rid k else if j = k then rid p else rid j
theorem EM {k p : Nat} (i : Nat) : swR rid k p i = rid (if i = p then k else if i = k then p else i) := by
 unfold swR; split
 ·rfl
 ·split <;> rfl
theorem MatH.swap {k p : Nat} (hm : MatH T t L h o rid n c u e1 e2) (hk : k < n) (hp : p < n) :
  MatH T t L (upd h o ⟨T, refsL (swR rid k p) n c, e2, true, true⟩) o (swR rid k p) n c (swp u k p) e1 e2 := by
 have hs : ∀ i, i < n → (if i = p then k else if i = k then p else i) < n := fun i hi => by split <;> (try split) <;> omega
 refine ⟨by rw [AA, if_pos rfl], fun i hi => ?_, fun i j hi hj e => ?_, fun i hi => ?_⟩
 ·rw [EM, AA, if_neg (hm.apart _ (hs i hi)), hm.row _ (hs i hi), BY]
  have : (if i = p then k else if i = k then p else i) = if i = k then p else if i = p then k else i := by
   by_cases h1 : i = p <;> by_cases h2 : i = k <;> simp_all
  rw [this]
 ·rw [EM, EM] at e
  have := hm.inj _ _ (hs i hi) (hs j hj) e
  by_cases h1 : i = p <;> by_cases h2 : i = k <;> by_cases h3 : j = p <;> by_cases h4 : j = k <;> simp_all
 ·rw [EM]; exact hm.apart _ (hs i hi)
theorem Ns {k p : Nat} {S : List Nat} (hS : ∀ i, i < n → rid i ∈ S) (hk : k < n) (hp : p < n) : ∀ i, i < n → swR rid k p i ∈ S := fun i hi => by
 rw [EM]; exact hS _ (by split <;> (try split) <;> omega)
end
theorem WV {a : Mx} {n k : Nat} {w : Mx} (hk : k ≤ n) (h : gS a n k = some w) : ∀ j, j < k → w j j ≠ 0 := by
 have := El a (n := n) k hk
 rw [h] at this
 cases hu : gI a n k with
 | none => rw [hu] at this; exact this.elim
 | some u => rw [hu] at this; exact this.dia

theorem Nt {a : Mx} {n : Nat} : ∀ {k m : Nat}, gS a n k = none → k ≤ m → gS a n m = none
  | k, 0, h, hm => by obtain rfl : k = 0 := by omega
                      exact h
  | k, m + 1, h, hm => by
    rcases Nat.lt_or_ge m k with c | c
    · obtain rfl : k = m + 1 := by omega
      exact h
    · rw [gS, Nt h c]
theorem UK {a : Mx} {n k : Nat} {u : Mx} (hk : k < n) (hu : gS a n k = some u) (hp : piv u k n = n) : gS a n n = none := by
 refine Nt (k := k + 1) ?_ hk
 rw [gS, hu]; simp [hp]
theorem X8 {a : Mx} {n k : Nat} {u : Mx} (hu : gS a n k = some u) (hp : piv u k n ≠ n) : gS a n (k + 1) = some (elmS (swp u k (piv u k n)) k) := by
 rw [gS, hu]; simp [hp]
structure SolS (U : Nat) (h0 h : Nat → Blk) (nx0 o n : Nat) (rid : Nat → Nat) (S : List Nat) (w : Mx) (e1 e2 : Bool) : Prop where
 mat : MatH 38 85 (ratM U) h o rid n (n + 1) w e1 e2
 mem : ∀ i, i < n → rid i ∈ S
 hold : ∀ i, i < nx0 → i ∉ o :: S → h i = h0 i
section
variable {U : Nat} {h0 h : Nat → Blk} {nx0 o n : Nat} {rid : Nat → Nat} {S : List Nat} {w w' : Mx} {e1 e2 : Bool}
theorem SolS.congr (H : SolS U h0 h nx0 o n rid S w e1 e2) (hw : ∀ i j, i < n → j < n + 1 → w i j = w' i j) : SolS U h0 h nx0 o n rid S w' e1 e2 := ⟨H.mat.congr hw, H.mem, H.hold⟩
theorem SolS.put {i j : Nat} {x : Rat} (H : SolS U h0 h nx0 o n rid S w e1 e2) (hi : i < n) : SolS U h0 (upd h (rid i) ⟨85, (ratM U (mapF (n + 1) (w i))).set j (rS U x), e1, true, true⟩) nx0 o n rid S (upd2 w i j x) e1 e2 :=
 ⟨H.mat.put Qx hi, H.mem, fun k hk h2 => by
  rw [AA, if_neg (fun e => h2 (by rw [e]; exact List.mem_cons_of_mem _ (H.mem i hi)))]; exact H.hold k hk h2⟩
theorem SolS.cell {id : Nat} {b : Blk} (H : SolS U h0 h nx0 o n rid S w e1 e2) (hid : nx0 ≤ id) (ho : o < nx0) (hS : ∀ i ∈ S, i < nx0) : SolS U h0 (upd h id b) nx0 o n rid S w e1 e2 :=
 ⟨H.mat.other zO (fun i hi e => by have := hS _ (H.mem i hi); omega), H.mem, fun k hk h2 => by rw [AA, if_neg zO]; exact H.hold k hk h2⟩
theorem SolS.swap {k p : Nat} (H : SolS U h0 h nx0 o n rid S w e1 e2) (hk : k < n) (hp : p < n) :
  SolS U h0 (upd h o ⟨38, refsL (swR rid k p) n (n + 1), e2, true, true⟩) nx0 o n (swR rid k p) S (swp w k p) e1 e2 :=
 ⟨H.mat.swap hk hp, Ns H.mem hk hp, fun i hi h2 => by rw [AA, if_neg (fun e => h2 (by rw [e]; exact List.mem_cons_self ..))]; exact H.hold i hi h2⟩
end
def sS (k i : Nat) : Nat → Bool := fun i' => decide (i' < i ∧ i' ≠ k)
theorem Nu {k i : Nat} (h : i ≠ k) (i' : Nat) : sS k (i + 1) i' = true ↔ (sS k i i' = true ∨ i' = i) := by simp only [sS, decide_eq_true_eq]; omega
theorem KF {k i : Nat} : sS k i i = false := by simp [sS]
theorem Rh {k i : Nat} : sS k i k = false := by simp [sS]
theorem YV {k : Nat} : sS k (k + 1) = sS k k := by funext i'; simp only [sS]; exact decide_eq_decide.2 zO
theorem Ri {k : Nat} {b : Mx} {i : Nat} : pel b k (sS k 0) i k = b := by
 have : sS k 0 = fun _ => false := by funext i'; simp only [sS]; exact decide_eq_false zO
 rw [this, JM]
theorem UL {k n i j : Nat} {b : Mx} (hi : i < n) : pel b k (sS k n) n k i j = elmS b k i j := by
 unfold pel elmS
 by_cases c : i ≠ k ∧ k ≤ j
 ·rw [if_pos ⟨.inl (by simp only [sS]; exact decide_eq_true ⟨hi, c.1⟩), c.2⟩, if_pos c]
 ·rw [if_neg, if_neg c]
  rintro ⟨h1 | ⟨_, h2⟩, h3⟩
  ·simp only [sS, decide_eq_true_eq] at h1; exact c ⟨h1.2, h3⟩
  ·omega
theorem PO {fr : Nat → AV} {h : Nat → Blk} {nx o n c k p : Nat} {rid : Nat → Nat} {e2 : Bool} (ho : h o = ⟨38, refsL rid n c, e2, true, true⟩) (hk : k < n) (hp : p < n) (hn : n ≤ 1000) :
  InOk Tryz.prog ⟨fr, h, nx⟩ 96 [.ref o n 0 n, .int .i64 k, .int .i64 p] (.tup []) ⟨fr, upd h o ⟨38, refsL (swR rid k p) n c, e2, true, true⟩, nx⟩ := by
 refine Bd (W := fun _ => false) AS Tryz.func96 rfl zK zL (AC ?_)
 generalize hQ : PostIn Tryz.prog Tryz.f96 _ _ _ = Q
 have hrl : ∀ (f : Nat → Nat), (refsL f n c).length = n := fun _ => CQ
 have atk := Ba (rid := rid) (c := c) hk
 have atp := Ba (rid := rid) (c := c) hp
 obtain ⟨f1, hf1⟩ : ∃ f, (fun j => if j = k then rid p else rid j) = f := ⟨_, rfl⟩
 have q1 : (refsL rid n c).set k (.ref (rid p) c 0 c) = refsL f1 n c := by rw [FB, hf1]
 have q2 := Ba (rid := f1) (c := c) hp
 have q3 : (refsL f1 n c).set p (.ref (rid k) c 0 c) = refsL (swR rid k p) n c := by rw [FB, ← hf1]; rfl
 have hupd : ∀ z w : Blk, upd (upd h o z) o w = upd h o w := by intro z w; funext j; simp only [AA]; split <;> rfl
 simp (disch := omega) only [go_sem, ho, hrl, atk, atp, q1, q2, q3, hupd]
 (repeat (with_reducible refine Or.inr ?_))
 rw [← hQ]
 exact ⟨trivial, rfl, rfl, rfl⟩
def solZ (U n : Nat) : Option Mx → AV
 | some w => .tup [.own 85 (ratM (U + U) (mapF n fun i => w i n / w i i)) [] false, .bool true]
 | none => .tup [.nil, .bool false]
set_option maxHeartbeats 16000000 in
theorem Ms {fr : Nat → AV} {h : Nat → Blk} {nx o n U : Nat} {rid : Nat → Nat} {S : List Nat} {a : Mx} {e1 e2 : Bool} (H : SolS U h h nx o n rid S a e1 e2) (ho : o < nx) (hS : ∀ i ∈ S, i < nx ∧ i ≠ o) (h1 : 1 ≤ n) (hn : n ≤ 12)
  (hUM : U ≤ 10000000000) (hU : ∀ k, k ≤ n → ∀ u, gS a n k = some u → FitM U u n (n + 1)) :
  InOk Tryz.prog ⟨fr, h, nx⟩ 59 [.ref o n 0 n] (matA true (solZ U n (gS a n n)) ⟨fr, cutH h h nx (o :: S), nx⟩).1 (matA true (solZ U n (gS a n n)) ⟨fr, cutH h h nx (o :: S), nx⟩).2 := by
 refine FK (W := ⟨fun g => g == 96, fun q => if q = 15 then some [(2, 15), (3, 15), (5, 15), (6, 15), (9, 15), (10, 15), (12, 15), (13, 15)] else none⟩) AS Tryz.func59 rfl zK zL (fun _ _ _ => .inl rfl) (AC ?_)
 generalize hQ : PostN Tryz.prog Tryz.f59 _ _ _ _ = Q
 have hrl : ∀ (f : Nat → Nat), (refsL f n (n + 1)).length = n := fun _ => CQ
 have hul : ∀ (f : Nat → Rat), (ratM U (mapF (n + 1) f)).length = n + 1 := fun _ => by rw [Aq, Ai]
 simp (disch := omega) only [go_sem, ↓AH, hrl, H.mat.outer]
 refine AM (fun (⟨k, g, u⟩ : Nat × (Nat → Nat) × Mx) st => st.fr 0 = .ref o n 0 n ∧ st.fr 4 = .int .i64 n ∧ st.fr 5 = .int .i64 k ∧ gS a n k = some u ∧ SolS U h st.h nx o n g S u e1 e2 ∧ nx ≤ st.nx ∧ k ≤ n) (fun (⟨k, g, u⟩ : Nat × (Nat → Nat) × Mx) => n - k) (0, rid, a)
  ⟨zV, zV, zV, rfl, H, Nat.le_refl _, zO⟩ ?_
 rintro ⟨k, g, u⟩ ⟨fr1, hh, nx1⟩ ⟨g0, g4, g5, hu, H1, hnx, hk⟩ J hJ
 simp only at g0 g4 g5 hu H1 hnx
 by_cases hin : k < n
 ·have keyJ := fun y st' => hJ y st'
  clear hJ
  simp (disch := omega) only [go_sem, ↓AH, g0, g4, g5]
  refine AM (fun (p : Nat) st => st.fr 0 = .ref o n 0 n ∧ st.fr 4 = .int .i64 n ∧ st.fr 5 = .int .i64 k ∧ st.fr 6 = .int .i64 p ∧ st.h = hh ∧ st.nx = nx1 ∧ k ≤ p ∧ p ≤ n ∧ ∀ j, k ≤ j → j < p → u j k = 0) (fun p => n - p) k
   ⟨(by simp [AA, g0] <;> omega), (by simp [AA, g4] <;> omega), (by simp [AA, g5] <;> omega), zV, rfl, rfl, Nat.le_refl _, hk, fun j h1 h2 => by omega⟩ ?_
  rintro p ⟨fr2, h2, nx2⟩ ⟨r0, r4, r5, r6, eh, enx, hkp, hpn, hz⟩ J2 hJ2
  simp only at r0 r4 r5 r6 eh enx
  subst eh enx
  have hout := H1.mat.outer
  by_cases hp : p < n
  ·have hrp := H1.mat.row p hp
   have hat := Ba (rid := g) (c := n + 1) hp
   have hck : (mapF (n + 1) (u p))[k]? = some (u p k) := A5 zO
   have hsg := FA (m := U) (a := u p k) zO
   by_cases h0 : u p k = 0
   ·rw [decide_eq_true h0] at hsg
    simp (disch := omega) only [go_sem, ↓AH, r0, r4, r5, r6, hout, hrl, hat, hrp, hul, hck, hsg]
    (repeat (with_reducible refine Or.inr ?_))
    exact hJ2 (p + 1) _ ⟨(by simp [AA, r0] <;> omega), (by simp [AA, r4] <;> omega), (by simp [AA, r5] <;> omega), zV, rfl, rfl, zO, hp, fun j h1 h2 => by
     rcases Nat.lt_or_ge j p with c | c
     ·exact hz j h1 c
     ·obtain rfl : j = p := by omega
      exact h0⟩ zO
   ·rw [decide_eq_false h0] at hsg
    have hpv : piv u k n = p := IE hkp hpn hz (.inr h0)
    clear hJ2
    have hgo := X8 hu (by rw [hpv]; omega)
    rw [hpv] at hgo
    have hbU := (hU k zO u hu).swp hin hp
    have hbE := hU (k + 1) hin _ hgo
    have hbk : swp u k p k k ≠ 0 := by rw [BY, if_pos rfl]; exact h0
    have HS := H1.swap hin hp
    simp (disch := omega) only [go_sem, ↓AH, r0, r4, r5, r6, hout, hrl, hat, hrp, hul, hck, hsg]
    (repeat (with_reducible refine Or.inr ?_))
    refine Aj (PO (n := n) (c := n + 1) (k := k) (p := p) hout hin hp zO) zK (.inl rfl) ?_
    generalize swp u k p = b at *
    generalize swR g k p = g2 at *
    simp (disch := omega) only [go_sem, ↓AH, r0, r4, r5, r6]
    refine AM (fun (i : Nat) st => st.fr 0 = .ref o n 0 n ∧ st.fr 4 = .int .i64 n ∧ st.fr 5 = .int .i64 k ∧ st.fr 7 = .int .i64 i ∧ SolS U h st.h nx o n g2 S (pel b k (sS k i) i k) e1 e2 ∧ nx ≤ st.nx ∧ i ≤ n) (fun i => n - i) 0
     ⟨(by simp [AA, r0] <;> omega), (by simp [AA, r4] <;> omega), (by simp [AA, r5] <;> omega), zV, by rw [Ri]; exact HS, hnx, zO⟩ ?_
    clear HS hrp hat hck hsg hout
    rintro i ⟨fr3, h3, nx3⟩ ⟨t0, t4, t5, t7, H2, hnx3, hi⟩ J3 hJ3
    simp only at t0 t4 t5 t7 H2 hnx3
    have hout := H2.mat.outer
    by_cases hin3 : i < n
    ·have keyJ3 := hJ3 (i + 1)
     clear hJ3
     by_cases hik : i = k
     ·simp (disch := omega) only [go_sem, ↓AH, t0, t4, t5, t7, hik]
      (repeat (with_reducible refine Or.inr ?_))
      exact keyJ3 _ ⟨(by simp [AA, t0] <;> omega), (by simp [AA, t4] <;> omega), (by simp [AA, t5] <;> omega), by simp [AA, hik], by
       have e : pel b k (sS k (i + 1)) (i + 1) k = pel b k (sS k i) i k := by rw [hik, YV, DP (i2 := k)]
       rw [e]; exact H2, hnx3, hin3⟩ zO
     ·have hri := H2.mat.row i hin3
      have hrk := H2.mat.row k hin
      rw [D7 Rh hik] at hrk
      have ati := Ba (rid := g2) (c := n + 1) hin3
      have atk := Ba (rid := g2) (c := n + 1) hin
      have cik : (mapF (n + 1) (pel b k (sS k i) i k i))[k]? = some (b i k) := by rw [A5 zO, F3 KF (Nat.le_refl k)]
      have ckk : (mapF (n + 1) (b k))[k]? = some (b k k) := A5 zO
      have hsg := FA (m := U) (a := b i k) zO
      by_cases hz0 : b i k = 0
      ·rw [decide_eq_true hz0] at hsg
       simp (disch := omega) only [go_sem, ↓AH, t0, t4, t5, t7, hout, hrl, ati, hri, hul, cik, hsg]
       (repeat (with_reducible refine Or.inr ?_))
       exact keyJ3 _ ⟨(by simp [AA, t0] <;> omega), (by simp [AA, t4] <;> omega), (by simp [AA, t5] <;> omega), zV, by
        have e : pel b k (sS k (i + 1)) (i + 1) k = pel b k (sS k i) i k := by rw [DP (i2 := i), ← Li (Nu hik) hz0]
        rw [e]; exact H2, hnx3, hin3⟩ zO
      ·rw [decide_eq_false hz0] at hsg
       have hov := HA (m := U) (n := U) (a := b i k) (b := b k k) zO (fun e => hbk (Bk.1 e))
       have m1 : (g2 i = nx3) = False := by have := (hS _ (H2.mem i hin3)).1; simp; omega
       have m2 : (g2 k = nx3) = False := by have := (hS _ (H2.mem k hin)).1; simp; omega
       have m3 : (o = nx3) = False := by simp; omega
       have m5 : (nx3 = g2 i) = False := by have := (hS _ (H2.mem i hin3)).1; simp; omega
       obtain ⟨f, hf⟩ : ∃ f, b i k / b k k = f := ⟨_, rfl⟩
       rw [hf] at hov
       simp (disch := omega) only [go_sem, ↓AH, t0, t4, t5, t7, hout, hrl, ati, hri, hul, cik, hsg, atk, hrk, ckk, hov, m1, m2, m3]
       (repeat (with_reducible refine Or.inr ?_))
       refine AM (fun (j : Nat) st => st.fr 0 = .ref o n 0 n ∧ st.fr 4 = .int .i64 n ∧ st.fr 5 = .int .i64 k ∧ st.fr 7 = .int .i64 i ∧ st.fr 8 = .ptr nx3 1 0 0 ∧ st.fr 9 = .int .i64 j ∧ SolS U h st.h nx o n g2 S (pel b k (sS k i) i j) e1 e2 ∧ st.h nx3 = ⟨85, [rS (U + U) f], true, false, true⟩ ∧ nx3 < st.nx ∧ k ≤ j ∧ j ≤ n + 1) (fun j => n + 1 - j) k
        ⟨(by simp [AA, t0] <;> omega), (by simp [AA, t4] <;> omega), (by simp [AA, t5] <;> omega), (by simp [AA, t7] <;> omega), zV, zV, (H2.cell hnx3 ho (fun i hi => (hS i hi).1)).cell hnx3 ho (fun i hi => (hS i hi).1), zU, zS, Nat.le_refl _, zO⟩ ?_
       clear m1 m2 m3 hout hri hrk
       rintro j ⟨fr4, h4, nx4⟩ ⟨s0, s4, s5, s7, s8, s9, H4, mc, hnx4, hkj, hj⟩ J4 hJ4
       simp only at s0 s4 s5 s7 s8 s9 H4 mc hnx4
       by_cases hjn : j < n + 1
       ·have hout4 := H4.mat.outer
        have hri4 := H4.mat.row i hin3
        have hrk4 := H4.mat.row k hin
        rw [D7 Rh hik] at hrk4
        have hvU : fits U (b i j - f * b k j) := by
         have := hbE i j hin3 hjn
         unfold elmS at this
         rw [if_pos ⟨hik, hkj⟩, hf] at this
         exact this
        have cij : (mapF (n + 1) (pel b k (sS k i) i j i))[j]? = some (b i j) := by rw [A5 hjn, F3 KF (Nat.le_refl j)]
        have ckj : (mapF (n + 1) (b k))[j]? = some (b k j) := A5 hjn
        have hre : ∀ q, U ≤ q → rS q (b i j - f * b k j) = rS U (b i j - f * b k j) := fun q hq => XX hvU hq
        have hst := IF (u := b) (k := k) (i := i) (j0 := j) (s := sS k i) KF hkj
        rw [hf] at hst
        have HP := H4.put (j := j) (x := b i j - f * b k j) hin3
        rw [hst] at HP
        simp (disch := omega) only [go_sem, ↓AH, s0, s4, s5, s7, s8, s9, hout4, hrl, ati, hri4, hul, cij, atk, hrk4, ckj, mc, hre]
        (repeat (with_reducible refine Or.inr ?_))
        exact hJ4 (j + 1) _ ⟨(by simp [AA, s0] <;> omega), (by simp [AA, s4] <;> omega), (by simp [AA, s5] <;> omega), (by simp [AA, s7] <;> omega), (by simp [AA, s8] <;> omega), zV, HP, by simp only [AA, m5, if_false, mc], hnx4, zO, hjn⟩ zO
       ·have ej : j = n + 1 := by omega
        rw [ej] at H4
        have HN := H4.congr (w' := pel b k (sS k (i + 1)) (i + 1) k) (fun i' j' hi' hj' => by rw [IG (c := n + 1) (t := sS k (i + 1)) (Nu hik) i' j' hj', DP])
        simp (disch := omega) only [go_sem, ↓AH, s0, s4, s5, s7, s8, s9]
        (repeat (with_reducible refine Or.inr ?_))
        exact keyJ3 _ ⟨(by simp [AA, s0] <;> omega), (by simp [AA, s4] <;> omega), (by simp [AA, s5] <;> omega), (by simp [AA, s7] <;> omega), HN, zT, hin3⟩ zO
    ·obtain rfl : i = n := by omega
     simp (disch := omega) only [go_sem, ↓AH, t0, t4, t5, t7]
     exact keyJ (k + 1, g2, elmS b k) _ ⟨(by simp [AA, t0] <;> omega), (by simp [AA, t4] <;> omega), (by simp [AA, t5] <;> omega), hgo, H2.congr (fun i' j hi' _ => UL hi'), hnx3, hin⟩ zT
  ·obtain rfl : p = n := by omega
   have hpv : piv u k p = p := IE hkp (Nat.le_refl _) hz (.inl rfl)
   rw [UK hin hu hpv] at hQ
   simp (disch := omega) only [go_sem, ↓AH, r0, r4, r5, r6]
   rw [← hQ]
   exact PD (.inl rfl) rfl zV zV rfl rfl (fun i hi he => H1.hold i hi he)
 ·obtain rfl : n = k := by omega
  have huU := hU n (Nat.le_refl n) u hu
  have hdia := WV (Nat.le_refl n) hu
  rw [hu] at hQ
  clear hJ
  have m3 : (o = nx1) = False := by simp; omega
  simp (disch := omega) only [go_sem, ↓AH, g0, g4, g5]
  refine AM (fun (i : Nat) st => st.fr 0 = .ref o n 0 n ∧ st.fr 4 = .int .i64 n ∧ st.fr 10 = .ref nx1 i 0 i ∧ st.fr 11 = .int .i64 i ∧ SolS U h st.h nx o n g S u e1 e2 ∧ st.h nx1 = ⟨85, ratM (U + U) (mapF i fun i => u i n / u i i), (i == 0), true, true⟩ ∧ nx1 < st.nx ∧ i ≤ n) (fun i => n - i) 0
   ⟨(by simp [AA, g0] <;> omega), (by simp [AA, g4] <;> omega), zV, zV, H1.cell hnx ho (fun i hi => (hS i hi).1), by simp [AA, ratM, mapF], zS, zO⟩ ?_
  rintro i ⟨fr2, h2, nx2⟩ ⟨r0, r4, r10, r11, H2, hm0, hnx2, hi⟩ J2 hJ2
  simp only at r0 r4 r10 r11 H2 hm0 hnx2
  have hel : (ratM (U + U) (mapF i fun i => u i n / u i i)).length = i := by rw [Aq, Ai]
  by_cases hin2 : i < n
  ·have hout := H2.mat.outer
   have hri := H2.mat.row i hin2
   have ati := Ba (rid := g) (c := n + 1) hin2
   have cin : (mapF (n + 1) (u i))[n]? = some (u i n) := A5 zO
   have cii : (mapF (n + 1) (u i))[i]? = some (u i i) := A5 zO
   have hov := HA (m := U) (n := U) (a := u i n) (b := u i i) zO (fun e => hdia i hin2 (Bk.1 e))
   have hsn : ratM (U + U) (mapF i fun i => u i n / u i i) ++ [rS (U + U) (u i n / u i i)] = ratM (U + U) (mapF (i + 1) fun i => u i n / u i i) := by rw [DN, GS]
   have hz1 : (i + 1 == 0) = false := by simp
   have HC := H2.cell (id := nx1) (b := ⟨85, ratM (U + U) (mapF (i + 1) fun i => u i n / u i i), false, true, true⟩) hnx ho (fun i hi => (hS i hi).1)
   simp (disch := omega) only [go_sem, ↓AH, r0, r4, r10, r11, hout, hrl, ati, hri, hul, cin, cii, hov, hm0, hel, reach, hsn]
   (repeat (with_reducible refine Or.inr ?_))
   exact hJ2 (i + 1) _ ⟨(by simp [AA, r0] <;> omega), (by simp [AA, r4] <;> omega), zV, zV, HC, by simp only [AA, ↓reduceIte, hz1], zT, hin2⟩ zO
  ·obtain rfl : n = i := by omega
   simp (disch := omega) only [go_sem, ↓AH, r0, r4, r10, r11]
   rw [← hQ]
   have hz0 : (n == 0) = false := by simp; omega
   rw [hz0] at hm0
   exact Mg (id := nx1) (n := n) (.inl rfl) rfl zV zV (by simp only [hm0]) hel zO zS (fun i hi he => H2.hold i hi he)
structure RowsG (t : Nat) (L : List Rat → List AV) (h : Nat → Blk) (lo hi o : Nat) (rid : Nat → Nat) (n c : Nat) (u : Mx) (e1 : Bool) : Prop where
 row : ∀ i, i < n → h (rid i) = ⟨t, L (mapF c (u i)), e1, true, true⟩
 at_ : ∀ i, i < n → lo ≤ rid i ∧ rid i < hi ∧ rid i ≠ o
 inj : ∀ i j, i < n → j < n → rid i = rid j → i = j
def ridS (rid : Nat → Nat) (n k : Nat) : Nat → Nat := fun i => if i = n then k else rid i
theorem IH {rid : Nat → Nat} {n c k : Nat} : refsL rid n c ++ [.ref k c 0 c] = refsL (ridS rid n k) (n + 1) c := by
 rw [FZ]
 have h1 : refsL rid n c = refsL (ridS rid n k) n c := LV fun i hi => by unfold ridS; rw [if_neg zO]
 rw [h1]; unfold ridS; simp
section
variable {T t : Nat} {L : List Rat → List AV} {h h' : Nat → Blk} {lo hi hi' o : Nat} {rid : Nat → Nat} {n c k : Nat} {u : Mx} {e1 e2 : Bool}
theorem RowsG.zero : RowsG t L h lo hi o rid 0 c u e1 := ⟨fun _ h => by omega, fun _ h => by omega, fun _ _ h => by omega⟩
theorem RowsG.keep (H : RowsG t L h lo hi o rid n c u e1) (h1 : ∀ i, lo ≤ i → i < hi → i ≠ o → h' i = h i) (h2 : hi ≤ hi') : RowsG t L h' lo hi' o rid n c u e1 :=
 ⟨fun i hi => by obtain ⟨a, b, d⟩ := H.at_ i hi; rw [h1 _ a b d]; exact H.row i hi, fun i hi => by obtain ⟨a, b, d⟩ := H.at_ i hi; exact ⟨a, zO, d⟩, H.inj⟩
theorem RowsG.add (H : RowsG t L h lo hi o rid n c u e1) (hk : h' k = ⟨t, L (mapF c (u n)), e1, true, true⟩) (h1 : ∀ i, lo ≤ i → i < hi → i ≠ o → h' i = h i) (k1 : hi ≤ k) (k0 : lo ≤ k) (k2 : k < hi') (k3 : k ≠ o) : RowsG t L h' lo hi' o (ridS rid n k) (n + 1) c u e1 := by
 have hs : ∀ i, i < n → ridS rid n k i = rid i := fun i hi => by unfold ridS; rw [if_neg zO]
 have hn : ridS rid n k n = k := by unfold ridS; rw [if_pos rfl]
 have H2 := H.keep (hi' := hi') h1 zO
 refine ⟨fun i hi => ?_, fun i hi => ?_, fun i j hi hj e => ?_⟩
 ·rcases Nat.lt_or_ge i n with c | c
  ·rw [hs i c]; exact H2.row i c
  ·obtain rfl : i = n := by omega
   rw [hn]; exact hk
 ·rcases Nat.lt_or_ge i n with c | c
  ·rw [hs i c]; exact H2.at_ i c
  ·obtain rfl : i = n := by omega
   rw [hn]; exact ⟨k0, k2, k3⟩
 ·rcases Nat.lt_or_ge i n with c | c <;> rcases Nat.lt_or_ge j n with d | d
  ·rw [hs i c, hs j d] at e; exact H.inj i j c d e
  ·obtain rfl : j = n := by omega
   rw [hs i c, hn] at e; have := (H.at_ i c).2.1; omega
  ·obtain rfl : i = n := by omega
   rw [hs j d, hn] at e; have := (H.at_ j d).2.1; omega
  ·omega
theorem RowsG.mat (H : RowsG t L h lo hi o rid n c u e1) (ho : h o = ⟨T, refsL rid n c, e2, true, true⟩) : MatH T t L h o rid n c u e1 e2 := ⟨ho, H.row, H.inj, fun i hi => (H.at_ i hi).2.2⟩
end

def chF (c s t : Rat) (to : Nat → Nat) (n j : Nat) : Rat := (if j = to n then c else 0) + (if j = n - 1 then s else 0) + (if j = n then t else 0)
def ch1 (c : Rat) (to : Nat → Nat) (n j : Nat) : Rat := if j = to n then c else 0
def ch2 (c s : Rat) (to : Nat → Nat) (n j : Nat) : Rat := ch1 c to n j + if j = n - 1 then s else 0
theorem YW {c s t : Rat} {to : Nat → Nat} {n j : Nat} : chF c s t to n j = ch2 c s to n j + if j = n then t else 0 := rfl
section
variable {c s t : Rat} {to : Nat → Nat} {n j : Nat}
end
theorem II (m : Nat) (hm : 0 < m) : fits m 1 := Eg (n := 1) (by simpa using Nat.one_lt_two_pow zO) hm
section
variable {x : MR} {act : Nat → Bool}
def relU : Nat := 17000000
def relB : Nat := 14000000000
theorem Rj {k : Nat} (hk : k ≤ 9) : gB 33001 k ≤ relU := by
 have h1 := KC (m := 33001) hk
 have h2 : gB 33001 9 = 16897023 := by decide +kernel
 have h3 : relU = 17000000 := rfl
 omega
theorem Rk {m k : Nat} (hm : 0 < m) : 0 < gB m k := by have := KC (m := m) (Nat.zero_le k); have h0 : gB m 0 = m := rfl; omega
theorem UM {a : Mx} {n k : Nat} {u : Mx} (hk : k ≤ n) (h : gI a n k = some u) : ∀ i, i < k → u i i ≠ 0 := by
 have := El a (n := n) k hk
 rw [h] at this
 cases hw : gS a n k with
 | none => rw [hw] at this; exact this.elim
 | some w => rw [hw] at this; exact this.udia
theorem Rl {k : Nat} (hk : k ≤ 8) : 2 * relU + bY relU k ≤ relB := by
 have h1 := KD (U := relU) hk
 have h2 : 2 * relU + bY relU 8 ≤ relB := by decide +kernel
 omega
end
def rtF (x : NR) (i j : Nat) : Rat := (x.rts.getD i []).getD j 0
def arrF (x : NR) (j : Nat) : Rat := x.arr.getD j 0
def srvF (x : NR) (j : Nat) : Rat := x.srv.getD j 0
def netM (x : NR) (n : Nat) : Mx := fun j i => if i = n then arrF x j else if j = i then -(rtF x i j) + 1 else -(rtF x i j)
structure NOk (x : NR) (n : Nat) : Prop where
 n1 : 1 ≤ n
 n6 : n ≤ 6
 arr : x.arr.length = n
 srv : x.srv.length = n
 rts : x.rts.length = n
 row : ∀ (i : Nat) (r : List Rat), x.rts[i]? = some r → r.length = n ∧ (∀ q ∈ r, fits 700 q) ∧ nonneg r = true ∧ ¬ 1 < sumL r
 fa : ∀ q ∈ x.arr, fits 700 q
 fs : ∀ q ∈ x.srv, fits 700 q ∧ 0 < q
theorem JN {s : List UInt8} {q : Rat} (h : posR s = some q) : parseR s = some q ∧ 0 < q := by
 unfold posR at h
 split at h
 ·split at h
  ·cases h; exact ⟨by assumption, by assumption⟩
  ·cases h
 ·cases h
theorem Lj {s : List UInt8} {q : Rat} (h : parseR s = some q) : fits 700 q := by
 have : listR [s] = some [q] := by unfold listR; simp [h]
 exact (GW this).1 q zS
theorem UN {m : Ntw} {x : NR} (h : netQ m = some x) : NOk x m.srv.length := by
 unfold netQ at h
 split at h
 ·rename_i hn
  obtain ⟨k1, k2, k3, k4⟩ := hn
  split at h
  ·rename_i a s ha hs
   split at h
   ·split at h
    ·rename_i r hr
     cases h
     obtain ⟨a1, a2, _⟩ := GW ha
     refine ⟨k1, k2, by rw [a2, k3], Cs hs, by rw [Cs hr, k4], fun i q hq => ?_, a1, DM (P := fun q => fits 700 q ∧ 0 < q) (fun s q hq => ⟨Lj (JN hq).1, (JN hq).2⟩) hs⟩
     have := DM (P := fun q : List Rat => q.length = m.srv.length ∧ (∀ z ∈ q, fits 700 z) ∧ nonneg q = true ∧ ¬ 1 < sumL q) (fun xs q hq => by
      obtain ⟨b1, b2, b3, b4⟩ := D6 hq
      exact ⟨b2, (GW b1).1, b3, b4⟩) hr q (List.mem_of_getElem? hq)
     exact this
    ·cases h
   ·cases h
  ·cases h
 ·cases h
theorem IJ {qs : List Rat} (h : ∀ q ∈ qs, fits 700 q) (i : Nat) : fits 700 (qs.getD i 0) := by
 rw [List.getD_eq_getElem?_getD]
 cases hq : qs[i]? with
 | none => exact JL _ zD
 | some q => exact h q (List.mem_of_getElem? hq)
section
variable {x : NR} {n : Nat}
theorem NOk.rt (H : NOk x n) (i j : Nat) : fits 700 (rtF x i j) := by
 unfold rtF
 rw [List.getD_eq_getElem?_getD (l := x.rts)]
 cases hr : x.rts[i]? with
 | none => exact JL _ zD
 | some r => exact IJ (H.row i r hr).2.1 j
theorem NOk.ar (H : NOk x n) (j : Nat) : fits 700 (arrF x j) := IJ H.fa j
theorem NOk.srp (H : NOk x n) {j : Nat} (hj : j < n) : 0 < srvF x j := by
 unfold srvF
 rw [List.getD_eq_getElem?_getD, List.getElem?_eq_getElem (by rw [H.srv]; exact hj)]
 exact (H.fs _ (List.getElem_mem _)).2
theorem IK (H : NOk x n) : FitM 3000 (netM x n) n (n + 1) := by
 intro i j _ _
 unfold netM
 split
 ·exact Az (H.ar i) zD
 ·split
  ·exact Az (m := 700 + 64 + 1) (Dz (Cb (H.rt j i)) (II _ zD)) zD
  ·exact Az (Cb (H.rt j i)) zD
theorem Nv (H : NOk x n) : RowM 33001 (netM x n) n (n + 1) := ((IK H).row).mono (by have := H.n6; omega)
theorem Rm (H : NOk x n) : ∀ k, k ≤ n → ∀ u, gI (netM x n) n k = some u → FitM relU u n (n + 1) :=
 fun k hk u hu => ((Re (Nv H) zO k hk u hu).fit (Rk zD)).mono (Rj (by have := H.n6; omega))
theorem WW (H : NOk x n) : ∀ k, k ≤ n → ∀ u, gS (netM x n) n k = some u → FitM relU u n (n + 1) :=
 fun k hk u hu => ((Rf (Nv H) zO k hk u hu).fit (Rk zD)).mono (Rj (by have := H.n6; omega))
theorem WX (H : NOk x n) {u : Mx} (hu : gI (netM x n) n n = some u) :
  (∀ t, t ≤ n → ∀ i, i < n → fits relB (bk u n t i)) ∧ ∀ t, t < n → ∀ m, m ≤ t → fits relB (sbX u (bk u n t) (n - 1 - t) m) := by
 have h6 := H.n6
 have hf := Rm H n (Nat.le_refl _) u hu
 have hd := UM (Nat.le_refl _) hu
 have hU : relU ≤ relB := by decide
 refine ⟨fun t ht i hi => ?_, fun t ht m hm => ?_⟩
 ·obtain ⟨h1, h2⟩ := Mq hf hd t ht
  rcases Nat.lt_or_ge i (n - t) with c | c
  ·exact Az (h2 i c) hU
  ·exact Az (h1 i hi c) (Rl zO)
 ·obtain ⟨h1, h2⟩ := Mq hf hd t zO
  refine Az (KE hf ht (h2 _ zO) (fun j hj hj2 => h1 j hj2 hj) m hm) ?_
  have := Rl (k := t) zO
  omega
end
def flQ (x : NR) (n : Nat) : Option (Nat → Rat) := match gS (netM x n) n n with
 | some w => some fun i => w i n / w i i
 | none => none
theorem UO {x : NR} {n : Nat} : match gI (netM x n) n n, flQ x n with
  | some u, some f => ∀ i, i < n → bk u n n i = f i
  | none, none => True
  | _, _ => False := by
 have := Rc (netM x n) n
 unfold flQ
 cases hI : gI (netM x n) n n <;> cases hS : gS (netM x n) n n <;> rw [hI, hS] at this
 ·trivial
 ·exact this.elim
 ·exact this.elim
 ·exact this
def flL (x : NR) (n : Nat) : List Rat := match flQ x n with | some f => mapF n f | none => []
def ldL (x : NR) (n : Nat) : List Rat := match flQ x n with | some f => mapF n (fun i => f i / srvF x i) | none => []
def stableB (ls : List Rat) : Bool := ls.all fun q => decide (q < 1)
theorem Uu {k M : Nat} {q : Rat} (h : fits k q) (hk : k ≤ M) : rS k q = rS M q := Up h (Az h hk)
theorem Uv {k M : Nat} {q : Rat} (h : fits k q) (hk : k ≤ M) : rI k q = rI M q := Uo h (Az h hk)
theorem Lk {x : NR} {n j : Nat} : netM x n j n = arrF x j := by unfold netM; rw [if_pos rfl]
theorem Nw {x : NR} {n i : Nat} (h : i < n) : netM x n i i = -(rtF x i i) + 1 := by unfold netM; rw [if_neg zO, if_pos rfl]
theorem Nx {x : NR} {n i j : Nat} (h : i < n) (hji : j ≠ i) : netM x n j i = -(rtF x i j) := by unfold netM; rw [if_neg zO, if_neg hji]
theorem Rn {x : NR} {i j : Nat} {r : List Rat} {q : Rat} (hr : x.rts[i]? = some r) (hq : r[j]? = some q) : rtF x i j = q := by
 have h1 : x.rts.getD i [] = r := by rw [List.getD_eq_getElem?_getD, hr]; rfl
 unfold rtF; rw [h1, Fy hq]
theorem UP {x : NR} {j : Nat} {q : Rat} (hq : x.arr[j]? = some q) : arrF x j = q := Fy hq
theorem Ny {x : NR} {j : Nat} {q : Rat} (hq : x.srv[j]? = some q) : srvF x j = q := Fy hq
def flV (U : Nat) (x : NR) (n : Nat) : AV := match gS (netM x n) n n with
 | some w => lS (U + U) (mapF n fun i => w i n / w i i)
 | none => .nil
set_option maxHeartbeats 8000000 in
theorem Ll {fr : Nat → AV} {h : Nat → Blk} {nx id U r : Nat} {x : NR} (H : NOk x r) (hU1 : 3000 ≤ U) (hU2 : U ≤ 17000000) (hgS : ∀ k, k ≤ r → ∀ u, gS (netM x r) r k = some u → FitM U u r (r + 1)) (hb : h id = ⟨41, [x.sv], true, false, true⟩) (hid : id < nx) :
  InOk Tryz.prog ⟨fr, h, nx⟩ 32 [.ptr id 1 0 0] (flV U x r) ⟨fr, h, nx⟩ := by
 refine Ct (W := ⟨fun g => g == 59, fun _ => none⟩) AS Tryz.func32 rfl zK zL (AC ?_)
 generalize hQ : PostS Tryz.prog Tryz.f32 _ _ _ _ = Q
 have hsl : x.srv.length = r := H.srv
 have hrl : (rwS x.rts).length = r := by rw [Fz, H.rts]
 have h6 := H.n6
 have h1 := H.n1
 have hF := IK H
 have hnL := @Lk x r
 have hnD := @Nw x r
 have hnO := @Nx x r
 unfold flV at hQ
 generalize netM x r = rm at *
 have n1 : (id = nx) = False := by simp; omega
 simp (disch := omega) only [go_sem, ↓AH, hb, n1, hsl]
 refine AM (fun (⟨j, rid⟩ : Nat × (Nat → Nat)) st => st.fr 0 = .ptr id 1 0 0 ∧ st.fr 3 = .ref nx j 0 j ∧ st.fr 15 = .int .i64 r ∧ st.fr 16 = .int .i64 j ∧
   st.h nx = ⟨38, refsL rid j (r + 1), (j == 0), true, true⟩ ∧ RowsG 85 (ratM U) st.h (nx + 1) st.nx nx rid j (r + 1) rm false ∧ (∀ i, i < nx → st.h i = h i) ∧ nx + 1 ≤ st.nx ∧ j ≤ r) (fun (⟨j, _⟩ : Nat × (Nat → Nat)) => r - j) (0, fun i => i)
  ⟨zV, zV, zV, zV, by simp (disch := omega) [AA, refsL], RowsG.zero, fun i hi => by simp (disch := omega) only [AA, if_neg], zS, zO⟩ ?_
 rintro ⟨j, rid⟩ ⟨fr1, h2, nx1⟩ ⟨g0, g3, g15, g16, hm, HR, hold, hnx, hj⟩ J hJ
 simp only at g0 g3 g15 g16 hm HR hold hnx
 have hb1 : h2 id = ⟨41, [x.sv], true, false, true⟩ := by rw [hold id hid]; exact hb
 by_cases hin : j < r
 ·have keyJ := fun rid' => hJ (j + 1, rid')
  clear hJ
  have m1 : (id = nx1) = False := by simp; omega
  simp (disch := omega) only [go_sem, ↓AH, g0, g3, g15, g16, hb1, hsl, m1]
  refine AM (fun (i : Nat) st => st.fr 0 = .ptr id 1 0 0 ∧ st.fr 3 = .ref nx j 0 j ∧ st.fr 15 = .int .i64 r ∧ st.fr 16 = .int .i64 j ∧ st.fr 4 = .int .i64 j ∧ st.fr 5 = .ref nx1 i 0 i ∧ st.fr 24 = .int .i64 r ∧ st.fr 25 = .int .i64 i ∧
    st.h nx1 = ⟨85, ratM U (mapF i (rm j)), (i == 0), true, true⟩ ∧ (∀ k, k < nx1 → st.h k = h2 k) ∧ nx1 + 1 ≤ st.nx ∧ i ≤ r) (fun i => r - i) 0
   ⟨(by simp [AA, g0] <;> omega), (by simp [AA, g3] <;> omega), (by simp [AA, g15] <;> omega), (by simp [AA, g16] <;> omega), zV, zV, zV, zV, by simp (disch := omega) [AA, mapF, ratM], fun k hk => by simp (disch := omega) only [AA, if_neg], zS, zO⟩ ?_
  rintro i ⟨fr2, h3, nx2⟩ ⟨s0, s3, s15, s16, s4, s5, s24, s25, hrow, hold3, hnx2, hi⟩ J2 hJ2
  simp only at s0 s3 s15 s16 s4 s5 s24 s25 hrow hold3 hnx2
  have hb2 : h3 id = ⟨41, [x.sv], true, false, true⟩ := by rw [hold3 id zO]; exact hb1
  have hel : (ratM U (mapF i (rm j))).length = i := by rw [Aq, Ai]
  have hsn : ratM U (mapF i (rm j)) ++ [rS U (rm j i)] = ratM U (mapF (i + 1) (rm j)) := by rw [DN, GS]
  by_cases hir : i < r
  ·have key := hJ2 (i + 1)
   clear hJ2
   obtain ⟨rw0, hr⟩ := AI (xs := x.rts) (i := i) (by rw [H.rts]; exact hir)
   have hr0 := (H.row i rw0 hr).1
   obtain ⟨q, hq⟩ := AI (xs := rw0) (i := j) zO
   have hqe : rtF x i j = q := Rn hr hq
   have ati := Mh hr
   have hrM : (ratM 700 rw0).length = r := by rw [Aq, hr0]
   have fq : fits 700 q := hqe ▸ H.rt i j
   have q1 : (nx1 = nx2) = False := by simp; omega
   have q2 : (nx2 = nx1) = False := by simp; omega
   have q3 : (id = nx2) = False := by simp; omega
   have q4 : (id = nx1) = False := by simp; omega
   have hz1 : (i + 1 == 0) = false := by simp
   by_cases hji : j = i
   ·subst hji
    have hv : ∀ k, 765 ≤ k → rS k (-q + 1) = rS U (rm j j) := fun k hk => by
     have e : rm j j = -q + 1 := by rw [hnD hir, hqe]
     have f : fits 765 (-q + 1) := Dz (m := 700) (n := 64) (Cb fq) (II _ zD)
     rw [e]
     exact Up (Az f hk) (Az f zO)
    simp (disch := omega) only [go_sem, ↓AH, s0, s3, s15, s16, s4, s5, s24, s25, hb2, hrow, hel, hrl, ati, hrM, hq, hv, hsn, q1, q2, q3, q4, reach, beq_self_eq_true, decide_true]
    (repeat (with_reducible refine Or.inr ?_))
    exact key _ ⟨(by simp [AA, s0] <;> omega), (by simp [AA, s3] <;> omega), (by simp [AA, s15] <;> omega), (by simp [AA, s16] <;> omega), (by simp [AA, s4] <;> omega), zV, (by simp [AA, s24] <;> omega), zV, by simp (disch := omega) only [AA, ↓reduceIte, if_neg, if_pos, hz1], fun k hk => by simp (disch := omega) only [AA, if_neg, hold3 k hk], zT, hir⟩ zO
   ·have hv : rS 700 (-q) = rS U (rm j i) := by
     have e : rm j i = -q := by rw [hnO hir hji, hqe]
     rw [e]
     exact Uu (Cb fq) zO
    simp (disch := omega) only [go_sem, ↓AH, s0, s3, s15, s16, s4, s5, s24, s25, hb2, hrow, hel, hrl, ati, hrM, hq, hv, hsn, q1, q2, q3, q4, reach]
    (repeat (with_reducible refine Or.inr ?_))
    exact key _ ⟨(by simp [AA, s0] <;> omega), (by simp [AA, s3] <;> omega), (by simp [AA, s15] <;> omega), (by simp [AA, s16] <;> omega), (by simp [AA, s4] <;> omega), zV, (by simp [AA, s24] <;> omega), zV, by simp (disch := omega) only [AA, ↓reduceIte, if_neg, if_pos, hz1], fun k hk => by simp (disch := omega) only [AA, if_neg, hold3 k hk], zT, hir⟩ zO
  ·obtain rfl : i = r := by omega
   have hm3 : h3 nx = ⟨38, refsL rid j (i + 1), (j == 0), true, true⟩ := by rw [hold3 _ zO]; exact hm
   obtain ⟨q, hq⟩ := AI (xs := x.arr) (i := j) (by rw [H.arr]; exact hin)
   have hqe : arrF x j = q := UP hq
   have fq : fits 700 q := hqe ▸ H.ar j
   have hv : rS 700 q = rS U (rm j i) := by rw [hnL, hqe]; exact Uu fq zO
   have hal : (ratM 700 x.arr).length = i := by rw [Aq, H.arr]
   have hol : (refsL rid j (i + 1)).length = j := CQ
   have hso : refsL rid j (i + 1) ++ [.ref nx1 (i + 1) 0 (i + 1)] = refsL (ridS rid j nx1) (j + 1) (i + 1) := IH
   have hz1 : (j + 1 == 0) = false := by simp
   have hz2 : (i + 1 == 0) = false := by simp
   have k1 : (nx1 = nx) = False := by simp; omega
   have k2 : (nx = nx1) = False := by simp; omega
   have k3 : (id = nx1) = False := by simp; omega
   have k4 : (id = nx2) = False := by simp; omega
   have k5 : (nx1 = nx2) = False := by simp; omega
   have k6 : (nx = nx2) = False := by simp; omega
   simp (disch := omega) only [go_sem, ↓AH, s0, s3, s15, s16, s4, s5, s24, s25, hb2, hm3, hol, hrow, hel, hal, hq, reach, k1, k2, k3, k4, k5, k6, hv, hsn, hso]
   (repeat (with_reducible refine Or.inr ?_))
   exact keyJ (ridS rid j nx1) _ ⟨(by simp [AA, s0] <;> omega), zV, (by simp [AA, s15] <;> omega), zV, by simp (disch := omega) only [AA, ↓reduceIte, if_neg, if_pos, hz1],
    HR.add (by simp (disch := omega) only [AA, ↓reduceIte, if_neg, if_pos]) (fun i h1 h2 h3 => by simp (disch := omega) only [AA, if_neg, hold3 i]) zO zO zT zO, fun i hi => by simp (disch := omega) only [AA, if_neg, hold3 i, hold i hi], zT, zO⟩ zT
 ·obtain rfl : j = r := by omega
  have hz : (j == 0) = false := by simp; omega
  have hMt : MatH 38 85 (ratM U) h2 nx rid j (j + 1) rm false false := HR.mat (by rw [hm, hz])
  have HS : SolS U h2 h2 nx1 nx j rid ((List.range j).map rid) rm false false := ⟨hMt, fun i hi => List.mem_map.2 ⟨i, List.mem_range.2 hi, rfl⟩, fun i _ _ => rfl⟩
  have hS : ∀ i ∈ (List.range j).map rid, nx + 1 ≤ i ∧ i < nx1 ∧ i ≠ nx := fun i hi => by
   obtain ⟨k, hk, rfl⟩ := List.mem_map.1 hi
   exact HR.at_ k (List.mem_range.1 hk)
  have hsol := fun fr => Ms (fr := fr) HS zO (fun i hi => ⟨(hS i hi).2.1, (hS i hi).2.2⟩) zO zO zO hgS
  have hci : ∀ i, i < nx → cutH h2 h2 nx1 (nx :: (List.range j).map rid) i = h i := fun i hi => by
   rw [cutH, if_neg, if_pos zO]
   ·exact hold i hi
   ·intro hm
    rcases List.mem_cons.1 hm with e | hm
    ·omega
    ·have := (hS _ hm).1; omega
  generalize cutH h2 h2 nx1 (nx :: (List.range j).map rid) = hc at *
  cases hg : gS rm j j with
  | none =>
   simp only [hg, solZ, matA, matL] at hsol
   rw [hg] at hQ
   simp (disch := omega) only [go_sem, ↓AH, g0, g3, g15, g16]
   refine Aj (hsol _) zK (.inl rfl) ?_
   simp (disch := omega) only [go_sem, ↓AH]
   rw [← hQ]
   exact DO (.inl rfl) rfl zV rfl (fun i hi _ => by simp only; exact hci i hi)
  | some w =>
   simp only [hg, solZ, O5 (T := 85) (xs := ratM (U + U) (mapF j fun i => w i j / w i i)) (sp := []) (ex := false) (b := true) zS rfl, Aq, Ai, List.length_nil, Nat.add_zero, List.append_nil] at hsol
   rw [hg] at hQ
   simp (disch := omega) only [go_sem, ↓AH, g0, g3, g15, g16]
   refine Aj (hsol _) zK (.inl rfl) ?_
   simp (disch := omega) only [go_sem, ↓AH]
   rw [← hQ]
   exact B6 (id := nx1) (n := j) (off := 0) (len := j) (.inl rfl) rfl zV zU (by simp only [AA, ↓reduceIte]; rw [Aq, Ai]) zU zO zO (by simp only [AA, ↓reduceIte, List.drop_zero]; exact List.take_of_length_le (by rw [Aq, Ai]; exact Nat.le_refl _)) E7 (fun i hi _ => by simp (disch := omega) only [AA, if_neg, hci i hi])
theorem Mt {fr : Nat → AV} {h : Nat → Blk} {nx id r : Nat} {x : NR} (H : NOk x r) (hb : h id = ⟨41, [x.sv], true, false, true⟩) (hid : id < nx) :
 InOk Tryz.prog ⟨fr, h, nx⟩ 32 [.ptr id 1 0 0] (flV relU x r) ⟨fr, h, nx⟩ := Ll H zD zD (WW H) hb hid
theorem Nz {a : Mx} {n : Nat} : ∀ {k m : Nat}, gI a n k = none → k ≤ m → gI a n m = none
  | k, 0, h, hm => by obtain rfl : k = 0 := by omega
                      exact h
  | k, m + 1, h, hm => by
    rcases Nat.lt_or_ge m k with c | c
    · obtain rfl : k = m + 1 := by omega
      exact h
    · rw [gI, Nz h c]
theorem UQ {a : Mx} {n k : Nat} {u : Mx} (hk : k < n) (hu : gI a n k = some u) (hp : piv u k n = n) : gI a n n = none := by
 refine Nz (k := k + 1) ?_ hk
 rw [gI, hu]; simp [hp]
theorem X9 {a : Mx} {n k : Nat} {u : Mx} (hu : gI a n k = some u) (hp : piv u k n ≠ n) : gI a n (k + 1) = some (elmI (swp u k (piv u k n)) k) := by
 rw [gI, hu]; simp [hp]
theorem WY {a : Mx} {n k : Nat} {u : Mx} (hk : k ≤ n) (h : gI a n k = some u) : ∀ i, i < k → u i i ≠ 0 := by
 have := El a (n := n) k hk
 rw [h] at this
 cases hw : gS a n k with
 | none => rw [hw] at this; exact this.elim
 | some w => rw [hw] at this; exact this.udia
theorem PP {u : Mx} {k p n : Nat} {M : Nat} (hk : k < n) (hp : p < n) : ((ratL M (mapF n fun i => u i n)).set k (rI M (u p n))).set p (rI M (u k n)) = ratL M (mapF n fun i => swp u k p i n) := by
 rw [Db, Db, De, De]
 congr 1
 refine Bi fun i _ => ?_
 rw [BY]
 by_cases h1 : i = p <;> by_cases h2 : i = k <;> simp_all
structure SolH (U M : Nat) (h0 h : Nat → Blk) (nx0 o r n : Nat) (rid : Nat → Nat) (S : List Nat) (w v : Mx) (e1 e2 e3 g3 : Bool) : Prop where
 mat : MatH 47 76 (ratL U) h o rid n n w e1 e2
 right : h r = ⟨76, ratL M (mapF n fun i => v i n), e3, g3, true⟩
 mem : ∀ i, i < n → rid i ∈ S
 hold : ∀ i, i < nx0 → i ≠ r → i ∉ o :: S → h i = h0 i
section
variable {U M : Nat} {h0 h : Nat → Blk} {nx0 o r n : Nat} {rid : Nat → Nat} {S : List Nat} {w v w' v' : Mx} {e1 e2 e3 g3 : Bool}
theorem SolH.congr (H : SolH U M h0 h nx0 o r n rid S w v e1 e2 e3 g3) (hw : ∀ i j, i < n → j < n → w i j = w' i j) (hv : ∀ i, i < n → v i n = v' i n) : SolH U M h0 h nx0 o r n rid S w' v' e1 e2 e3 g3 :=
 ⟨H.mat.congr hw, by rw [H.right, Bi fun i hi => hv i hi], H.mem, H.hold⟩
theorem SolH.put {i j : Nat} {x : Rat} (H : SolH U M h0 h nx0 o r n rid S w v e1 e2 e3 g3) (hi : i < n) (hr : ∀ i, i < n → rid i ≠ r) : SolH U M h0 (upd h (rid i) ⟨76, (ratL U (mapF n (w i))).set j (rI U x), e1, true, true⟩) nx0 o r n rid S (upd2 w i j x) v e1 e2 e3 g3 :=
 ⟨H.mat.put Db hi, by rw [AA, if_neg (fun e => hr i hi e.symm)]; exact H.right, H.mem, fun k hk h1 h2 => by
  rw [AA, if_neg (fun e => h2 (by rw [e]; exact List.mem_cons_of_mem _ (H.mem i hi)))]; exact H.hold k hk h1 h2⟩
theorem SolH.putR {L : List AV} (H : SolH U M h0 h nx0 o r n rid S w v e1 e2 e3 g3) (hL : L = ratL M (mapF n fun i => v' i n)) (hr : ∀ i, i < n → rid i ≠ r) (ho : o ≠ r) : SolH U M h0 (upd h r ⟨76, L, e3, g3, true⟩) nx0 o r n rid S w v' e1 e2 e3 g3 :=
 ⟨H.mat.other (fun e => ho e.symm) (fun i hi e => hr i hi e.symm), by rw [AA, if_pos rfl, hL], H.mem, fun k hk h1 h2 => by rw [AA, if_neg h1]; exact H.hold k hk h1 h2⟩
theorem SolH.cell {id : Nat} {b : Blk} (H : SolH U M h0 h nx0 o r n rid S w v e1 e2 e3 g3) (hid : nx0 ≤ id) (ho : o < nx0) (hr : r < nx0) (hS : ∀ i ∈ S, i < nx0) : SolH U M h0 (upd h id b) nx0 o r n rid S w v e1 e2 e3 g3 :=
 ⟨H.mat.other zO (fun i hi e => by have := hS _ (H.mem i hi); omega), by rw [AA, if_neg zO]; exact H.right, H.mem, fun k hk h1 h2 => by rw [AA, if_neg zO]; exact H.hold k hk h1 h2⟩
theorem SolH.swap {h' : Nat → Blk} {k p : Nat} (H : SolH U M h0 h nx0 o r n rid S w v e1 e2 e3 g3) (hk : k < n) (hp : p < n) (hr : ∀ i, i < n → rid i ≠ r)
  (k1 : h' o = ⟨47, refsL (swR rid k p) n n, e2, true, true⟩) (k2 : h' r = ⟨76, ratL M (mapF n fun i => swp v k p i n), e3, g3, true⟩) (k3 : ∀ i, i ≠ o → i ≠ r → h' i = h i) :
  SolH U M h0 h' nx0 o r n (swR rid k p) S (swp w k p) (swp v k p) e1 e2 e3 g3 := by
 refine ⟨(H.mat.swap hk hp).of_eq (by rw [k1, AA, if_pos rfl]) (fun i hi => ?_), k2, Ns H.mem hk hp, fun i hi h1 h2 => ?_⟩
 ·have e1 : swR rid k p i ≠ o := by rw [EM]; exact H.mat.apart _ (by split <;> (try split) <;> omega)
  have e2 : swR rid k p i ≠ r := by rw [EM]; exact hr _ (by split <;> (try split) <;> omega)
  rw [AA, if_neg e1, k3 _ e1 e2]
 ·rw [k3 i (fun e => h2 (by rw [e]; exact List.mem_cons_self ..)) h1]; exact H.hold i hi h1 h2
def sI (k i : Nat) : Nat → Bool := fun i' => decide (k < i' ∧ i' < i)
theorem KG {k i : Nat} (h : k < i) (i' : Nat) : sI k (i + 1) i' = true ↔ (sI k i i' = true ∨ i' = i) := by simp only [sI, decide_eq_true_eq]; omega
theorem F4 {k i : Nat} : sI k i i = false := by simp [sI]
theorem Mu {k i : Nat} : sI k i k = false := by simp [sI]
theorem Ro {k : Nat} {b : Mx} {i : Nat} : pel b k (sI k (k + 1)) i k = b := by
 have : sI k (k + 1) = fun _ => false := by funext i'; simp only [sI]; exact decide_eq_false zO
 rw [this, JM]
theorem N0 {k n i j : Nat} {b : Mx} (hi : i < n) : pel b k (sI k n) n k i j = elmI b k i j := by
 unfold pel elmI
 by_cases c : k < i ∧ k ≤ j
 ·rw [if_pos ⟨.inl (by simp only [sI]; exact decide_eq_true ⟨c.1, hi⟩), c.2⟩, if_pos c]
 ·rw [if_neg, if_neg c]
  rintro ⟨h1 | ⟨_, h2⟩, h3⟩
  ·simp only [sI, decide_eq_true_eq] at h1; exact c ⟨h1.1, h3⟩
  ·omega
theorem UR {b : Mx} {k i n : Nat} {s : Nat → Bool} (hk : k ≤ n) (i' : Nat) : pel b k s i k i' n = pel b k s i n i' n := by
 unfold pel
 by_cases c : s i' = true
 ·rw [if_pos ⟨.inl c, hk⟩, if_pos ⟨.inl c, hk⟩]
 ·rw [if_neg, if_neg] <;> rintro ⟨h1 | ⟨_, h2⟩, h3⟩ <;> first | exact c h1 | omega
end
def solX (r n : Nat) : Option Mx → AV
 | some _ => .tup [.ref r n 0 n, .bool true]
 | none => .tup [.nil, .bool false]
def solE (o r : Nat) (S : List Nat) : Option Mx → List Nat
 | some _ => o :: S
 | none => r :: o :: S
def solY (M n : Nat) (h : Nat → Blk) (r : Nat) (e3 g3 : Bool) : Option Mx → Nat → Blk
 | some u => upd h r ⟨76, ratL M (mapF n (bk u n n)), e3, g3, true⟩
 | none => h
def bkP (u : Mx) (n t m : Nat) : Mx := fun i j => if j = n then (if i = n - 1 - t then sbX u (bk u n t) (n - 1 - t) m else bk u n t i) else u i j
def bkM (u : Mx) (n t : Nat) : Mx := fun i j => if j = n then bk u n t i else u i j
theorem Rp {u : Mx} {n t i : Nat} : bkP u n t 0 i n = bkM u n t i n := by
 unfold bkP bkM; rw [if_pos rfl, if_pos rfl]; split
 ·rename_i e; rw [sbX, e]
 ·rfl
set_option maxHeartbeats 16000000 in
theorem US {fr : Nat → AV} {h : Nat → Blk} {nx o r n U M : Nat} {rid : Nat → Nat} {S : List Nat} {a : Mx} {e1 e2 e3 g3 : Bool} (H : SolH U M h h nx o r n rid S a a e1 e2 e3 g3) (ho : o < nx) (hr : r < nx) (hor : o ≠ r) (hS : ∀ i ∈ S, i < nx ∧ i ≠ r ∧ i ≠ o) (h1 : 1 ≤ n) (hn : n ≤ 12)
  (hM : M ≤ 50000000000) (hUM : U ≤ 1000000000) (hU : ∀ k, k ≤ n → ∀ u, gI a n k = some u → FitM U u n (n + 1)) (hX : ∀ u, gI a n n = some u → (∀ t, t ≤ n → ∀ i, i < n → fits M (bk u n t i)) ∧ ∀ t, t < n → ∀ m, m ≤ t → fits M (sbX u (bk u n t) (n - 1 - t) m))
  (hUM2 : U ≤ M) :
  InOk Tryz.prog ⟨fr, h, nx⟩ 60 [.ref o n 0 n, .ref r n 0 n] (solX r n (gI a n n)) ⟨fr, cutH h (solY M n h r e3 g3 (gI a n n)) nx (solE o r S (gI a n n)), nx⟩ := by
 have hst : Stays Tryz.prog (solX r n (gI a n n)) (cutH h (solY M n h r e3 g3 (gI a n n)) nx (solE o r S (gI a n n))) nx (solE o r S (gI a n n)) := by
  cases gI a n n with
  | none => exact Md rfl
  | some u => exact Me hr (by rw [solE]; intro hm; rcases List.mem_cons.1 hm with e | hm; exact hor e.symm; exact (hS _ hm).2.1 rfl)
 have hpu : ∀ i, i < nx → i ∉ solE o r S (gI a n n) → solY M n h r e3 g3 (gI a n n) i = h i ∨ AV.pureL (solY M n h r e3 g3 (gI a n n) i).xs = true := by
  intro i _ _
  cases gI a n n with
  | none => exact .inl rfl
  | some u =>
   rw [solY, AA]
   by_cases e : i = r
   ·rw [if_pos e]; exact .inr zS
   ·rw [if_neg e]; exact .inl rfl
 refine IU (W := ⟨fun _ => false, fun q => if q = 15 then some [(2, 15), (3, 15), (5, 15), (6, 15), (9, 15), (10, 15), (12, 15), (13, 15)] else none⟩) AS Tryz.func60 rfl zK zL hst hpu (AC ?_)
 clear hst hpu
 generalize hQ : PostE Tryz.prog Tryz.f60 _ _ _ _ = Q
 have hrl : ∀ (f : Nat → Nat), (refsL f n n).length = n := fun _ => CQ
 have hml : ∀ (f : Nat → Rat), (ratL M (mapF n f)).length = n := fun _ => by rw [Ab, Ai]
 have hul : ∀ (f : Nat → Rat), (ratL U (mapF n f)).length = n := fun _ => by rw [Ab, Ai]
 have hrS : ∀ (g : Nat → Nat), (∀ i, i < n → g i ∈ S) → ∀ i, i < n → g i ≠ r := fun g hg i hi => (hS _ (hg i hi)).2.1
 simp (disch := omega) only [go_sem, ↓AH, hrl, H.mat.outer]
 refine AM (fun (⟨k, g, u⟩ : Nat × (Nat → Nat) × Mx) st => st.fr 0 = .ref o n 0 n ∧ st.fr 1 = .ref r n 0 n ∧ st.fr 6 = .int .i64 n ∧ st.fr 16 = .int .i64 n ∧ st.fr 17 = .int .i64 k ∧ gI a n k = some u ∧ SolH U M h st.h nx o r n g S u u e1 e2 e3 g3 ∧ nx ≤ st.nx ∧ k ≤ n) (fun (⟨k, g, u⟩ : Nat × (Nat → Nat) × Mx) => n - k) (0, rid, a)
  ⟨zV, zV, zV, zV, zV, rfl, H, Nat.le_refl _, zO⟩ ?_
 rintro ⟨k, g, u⟩ ⟨fr1, hh, nx1⟩ ⟨g0, g1, g6, g16, g17, hu, H1, hnx, hk⟩ J hJ
 simp only at g0 g1 g6 g16 g17 hu H1 hnx
 by_cases hin : k < n
 ·have keyJ := fun y st' => hJ y st'
  clear hJ
  simp (disch := omega) only [go_sem, ↓AH, g0, g1, g6, g16, g17]
  refine AM (fun (p : Nat) st => st.fr 0 = .ref o n 0 n ∧ st.fr 1 = .ref r n 0 n ∧ st.fr 6 = .int .i64 n ∧ st.fr 7 = .int .i64 k ∧ st.fr 8 = .int .i64 p ∧ st.fr 16 = .int .i64 n ∧ st.fr 17 = .int .i64 k ∧ st.h = hh ∧ st.nx = nx1 ∧ k ≤ p ∧ p ≤ n ∧ ∀ j, k ≤ j → j < p → u j k = 0) (fun p => n - p) k
   ⟨(by simp [AA, g0] <;> omega), (by simp [AA, g1] <;> omega), (by simp [AA, g6] <;> omega), zV, zV, (by simp [AA, g16] <;> omega), (by simp [AA, g17] <;> omega), rfl, rfl, Nat.le_refl _, hk, fun j h1 h2 => by omega⟩ ?_
  rintro p ⟨fr2, h2, nx2⟩ ⟨r0, r1, r6, r7, r8, r16, r17, eh, enx, hkp, hpn, hz⟩ J2 hJ2
  simp only at r0 r1 r6 r7 r8 r16 r17 eh enx
  subst eh enx
  have hout := H1.mat.outer
  by_cases hp : p < n
  ·have hrp := H1.mat.row p hp
   have hat := Ba (rid := g) (c := n) hp
   have hsg := Cq (m := U) (a := u p k) zO
   have hck : (mapF n (u p))[k]? = some (u p k) := A5 hin
   by_cases h0 : u p k = 0
   ·have hs0 : (u p k).num.sign = 0 := by rw [h0]; rfl
    rw [hs0] at hsg
    simp (disch := omega) only [go_sem, ↓AH, r0, r1, r6, r7, r8, r16, r17, hout, hrl, hat, hrp, hul, hck, hsg]
    (repeat (with_reducible refine Or.inr ?_))
    exact hJ2 (p + 1) _ ⟨(by simp [AA, r0] <;> omega), (by simp [AA, r1] <;> omega), (by simp [AA, r6] <;> omega), (by simp [AA, r7] <;> omega), zV, (by simp [AA, r16] <;> omega), (by simp [AA, r17] <;> omega), rfl, rfl, zO, hp, fun j h1 h2 => by
     rcases Nat.lt_or_ge j p with c | c
     ·exact hz j h1 c
     ·obtain rfl : j = p := by omega
      exact h0⟩ zO
   ·have hs0 : (u p k).num.sign ≠ 0 := HB fun e => h0 (Bk.1 e)
    generalize (u p k).num.sign = s0 at hsg hs0
    have hpv : piv u k n = p := IE hkp hpn hz (.inr h0)
    have hrk := H1.mat.row k hin
    have hatk := Ba (rid := g) (c := n) hin
    have hmk : (mapF n fun i => u i n)[k]? = some (u k n) := A5 hin
    have hmp : (mapF n fun i => u i n)[p]? = some (u p n) := A5 hp
    clear hJ2
    obtain ⟨f1, hf1⟩ : ∃ f, (fun j => if j = k then g p else g j) = f := ⟨_, rfl⟩
    obtain ⟨c1, hc1⟩ : ∃ f, (fun i => if i = k then u p n else u i n) = f := ⟨_, rfl⟩
    have q1 : (refsL g n n).set k (.ref (g p) n 0 n) = refsL f1 n n := by rw [FB, hf1]
    have q2 := Ba (rid := f1) (c := n) hp
    have q3 : (refsL f1 n n).set p (.ref (g k) n 0 n) = refsL (swR g k p) n n := by rw [FB, ← hf1]; rfl
    have q4 : (ratL M (mapF n fun i => u i n)).set k (rI M (u p n)) = ratL M (mapF n c1) := by rw [Db, De, hc1]
    have q5 : (mapF n c1)[p]? = some (c1 p) := A5 hp
    have q6 : (ratL M (mapF n c1)).set p (rI M (u k n)) = ratL M (mapF n fun i => swp u k p i n) := by rw [← q4]; exact PP hin hp
    have hgo := X9 hu (by rw [hpv]; omega)
    rw [hpv] at hgo
    have hbU := (hU k zO u hu).swp hin hp
    have hbE := hU (k + 1) hin _ hgo
    have hbk : swp u k p k k ≠ 0 := by rw [BY, if_pos rfl]; exact h0
    have HS : ∀ h' : Nat → Blk, _ → _ → _ → _ := fun h' k1 k2 k3 => H1.swap (h' := h') hin hp (hrS g H1.mem) k1 k2 k3
    simp (disch := omega) only [go_sem, ↓AH, r0, r1, r6, r7, r8, r16, r17, hout, hrl, hat, hrp, hul, hck, hsg, H1.right, hml, hatk, hmk, hmp, q1, q2, q3, q4, q5, q6]
    (repeat (with_reducible refine Or.inr ?_))
    generalize swp u k p = b at *
    generalize swR g k p = g2 at *
    refine AM (fun (i : Nat) st => st.fr 0 = .ref o n 0 n ∧ st.fr 1 = .ref r n 0 n ∧ st.fr 6 = .int .i64 n ∧ st.fr 7 = .int .i64 k ∧ st.fr 9 = .int .i64 i ∧ st.fr 16 = .int .i64 n ∧ st.fr 17 = .int .i64 k ∧ SolH U M h st.h nx o r n g2 S (pel b k (sI k i) i k) (pel b k (sI k i) i k) e1 e2 e3 g3 ∧ nx ≤ st.nx ∧ k + 1 ≤ i ∧ i ≤ n) (fun i => n - i) (k + 1)
     ⟨(by simp [AA, r0] <;> omega), (by simp [AA, r1] <;> omega), (by simp [AA, r6] <;> omega), (by simp [AA, r7] <;> omega), zV, (by simp [AA, r16] <;> omega), (by simp [AA, r17] <;> omega), by
      rw [Ro]
      exact HS _ (by simp (disch := omega) only [AA, ↓reduceIte, if_pos, if_neg]) (by simp (disch := omega) only [AA, ↓reduceIte, if_pos, if_neg]) (fun i h1 h2 => by simp only [AA]; simp only [h1, h2, if_false]), hnx, Nat.le_refl _, zO⟩ ?_
    clear HS q1 q2 q3 q4 q5 q6 hmk hmp hatk hrk hat hrp hck hsg hout
    rintro i ⟨fr3, h3, nx3⟩ ⟨t0, t1, t6, t7, t9, t16, t17, H2, hnx3, hki, hi⟩ J3 hJ3
    simp only at t0 t1 t6 t7 t9 t16 t17 H2 hnx3
    have hout := H2.mat.outer
    by_cases hin3 : i < n
    ·have keyJ3 := hJ3 (i + 1)
     clear hJ3
     have hri := H2.mat.row i hin3
     have hrk := H2.mat.row k hin
     rw [D7 Mu (show i ≠ k by omega)] at hrk
     have ati := Ba (rid := g2) (c := n) hin3
     have atk := Ba (rid := g2) (c := n) hin
     have cik : (mapF n (pel b k (sI k i) i k i))[k]? = some (b i k) := by rw [A5 hin, F3 F4 (Nat.le_refl k)]
     have ckk : (mapF n (b k))[k]? = some (b k k) := A5 hin
     have hsg := Cq (m := U) (a := b i k) zO
     have hgr : g2 i ≠ r := hrS g2 H2.mem i hin3
     by_cases hz0 : b i k = 0
     ·have hs1 : (b i k).num.sign = 0 := by rw [hz0]; rfl
      rw [hs1] at hsg
      simp (disch := omega) only [go_sem, ↓AH, t0, t1, t6, t7, t9, t16, t17, hout, hrl, ati, hri, hul, cik, hsg]
      (repeat (with_reducible refine Or.inr ?_))
      exact keyJ3 _ ⟨(by simp [AA, t0] <;> omega), (by simp [AA, t1] <;> omega), (by simp [AA, t6] <;> omega), (by simp [AA, t7] <;> omega), zV, (by simp [AA, t16] <;> omega), (by simp [AA, t17] <;> omega), by
       have e : pel b k (sI k (i + 1)) (i + 1) k = pel b k (sI k i) i k := by rw [DP (i2 := i), ← Li (KG zO) hz0]
       rw [e]; exact H2, hnx3, zO, hin3⟩ zO
     ·have hs1 : (b i k).num.sign ≠ 0 := HB fun e => hz0 (Bk.1 e)
      generalize (b i k).num.sign = s1 at hsg hs1
      have hov := Ht (m := U) (n := U) (a := b i k) (b := b k k) zO (fun e => hbk (Bk.1 e))
      have m1 : (g2 i = nx3) = False := by have := (hS _ (H2.mem i hin3)).1; simp; omega
      have m2 : (g2 k = nx3) = False := by have := (hS _ (H2.mem k hin)).1; simp; omega
      have m3 : (o = nx3) = False := by simp; omega
      have m4 : (r = nx3) = False := by simp; omega
      obtain ⟨f, hf⟩ : ∃ f, b i k / b k k = f := ⟨_, rfl⟩
      rw [hf] at hov
      simp (disch := omega) only [go_sem, ↓AH, t0, t1, t6, t7, t9, t16, t17, hout, hrl, ati, hri, hul, cik, hsg, atk, hrk, ckk, hov, m1, m2, m3]
      (repeat (with_reducible refine Or.inr ?_))
      have m5 : (nx3 = g2 i) = False := by have := (hS _ (H2.mem i hin3)).1; simp; omega
      refine AM (fun (j : Nat) st => st.fr 0 = .ref o n 0 n ∧ st.fr 1 = .ref r n 0 n ∧ st.fr 6 = .int .i64 n ∧ st.fr 7 = .int .i64 k ∧ st.fr 9 = .int .i64 i ∧ st.fr 10 = .ptr nx3 1 0 0 ∧ st.fr 11 = .int .i64 j ∧ st.fr 16 = .int .i64 n ∧ st.fr 17 = .int .i64 k ∧ SolH U M h st.h nx o r n g2 S (pel b k (sI k i) i j) (pel b k (sI k i) i k) e1 e2 e3 g3 ∧ st.h nx3 = ⟨76, [rI (U + U) f], true, false, true⟩ ∧ nx3 < st.nx ∧ k ≤ j ∧ j ≤ n) (fun j => n - j) k
       ⟨(by simp [AA, t0] <;> omega), (by simp [AA, t1] <;> omega), (by simp [AA, t6] <;> omega), (by simp [AA, t7] <;> omega), (by simp [AA, t9] <;> omega), zV, zV, (by simp [AA, t16] <;> omega), (by simp [AA, t17] <;> omega), (H2.cell hnx3 ho hr (fun i hi => (hS i hi).1)).cell hnx3 ho hr (fun i hi => (hS i hi).1), zU, zS, Nat.le_refl _, zO⟩ ?_
      clear m1 m2 m3 hout hri hrk
      rintro j ⟨fr4, h4, nx4⟩ ⟨s0, s1', s6, s7, s9, s10, s11, s16, s17, H4, mc, hnx4, hkj, hj⟩ J4 hJ4
      simp only at s0 s1' s6 s7 s9 s10 s11 s16 s17 H4 mc hnx4
      have hout4 := H4.mat.outer
      have hri4 := H4.mat.row i hin3
      have hrk4 := H4.mat.row k hin
      rw [D7 Mu (show i ≠ k by omega)] at hrk4
      have hvU : ∀ j', k ≤ j' → j' ≤ n → fits U (b i j' - f * b k j') := fun j' h1 h2 => by
       have := hbE i j' hin3 zO
       unfold elmI at this
       rw [if_pos ⟨zO, h1⟩, hf] at this
       exact this
      by_cases hjn : j < n
      ·have cij : (mapF n (pel b k (sI k i) i j i))[j]? = some (b i j) := by rw [A5 hjn, F3 F4 (Nat.le_refl j)]
       have ckj : (mapF n (b k))[j]? = some (b k j) := A5 hjn
       have hre : ∀ q, U ≤ q → rI q (b i j - f * b k j) = rI U (b i j - f * b k j) := fun q hq => NM (hvU j hkj hj) hq
       have hst := IF (u := b) (k := k) (i := i) (j0 := j) (s := sI k i) F4 hkj
       rw [hf] at hst
       have HP := H4.put (j := j) (x := b i j - f * b k j) hin3 (hrS g2 H4.mem)
       rw [hst] at HP
       simp (disch := omega) only [go_sem, ↓AH, s0, s1', s6, s7, s9, s10, s11, s16, s17, hout4, hrl, ati, hri4, hul, cij, atk, hrk4, ckj, mc, hre]
       (repeat (with_reducible refine Or.inr ?_))
       exact hJ4 (j + 1) _ ⟨(by simp [AA, s0] <;> omega), (by simp [AA, s1'] <;> omega), (by simp [AA, s6] <;> omega), (by simp [AA, s7] <;> omega), (by simp [AA, s9] <;> omega), (by simp [AA, s10] <;> omega), zV, (by simp [AA, s16] <;> omega), (by simp [AA, s17] <;> omega), HP, by simp only [AA, m5, if_false, mc], hnx4, zO, hjn⟩ zO
      ·obtain rfl : n = j := by omega
       have hrt := H4.right
       have cri : (mapF n fun i' => pel b k (sI k i) i k i' n)[i]? = some (b i n) := by rw [A5 hin3, F3 F4 zO]
       have crk : (mapF n fun i' => pel b k (sI k i) i k i' n)[k]? = some (b k n) := by rw [A5 hin, D7 Mu (show i ≠ k by omega)]
       have hre : ∀ q, M ≤ q → rI q (b i n - f * b k n) = rI M (b i n - f * b k n) := fun q hq => NM (Az (hvU n zO (Nat.le_refl n)) hUM2) hq
       have hst := IF (u := b) (k := k) (i := i) (j0 := n) (s := sI k i) F4 zO
       rw [hf] at hst
       have hL : (ratL M (mapF n fun i' => pel b k (sI k i) i k i' n)).set i (rI M (b i n - f * b k n)) = ratL M (mapF n fun i' => upd2 (pel b k (sI k i) i k) i n (b i n - f * b k n) i' n) := by rw [Db, Lh]
       have HR := H4.putR hL (hrS g2 H4.mem) hor
       have HN := HR.congr (w' := pel b k (sI k (i + 1)) (i + 1) k) (v' := pel b k (sI k (i + 1)) (i + 1) k) (fun i' j' hi' hj' => by rw [IG (c := n) (t := sI k (i + 1)) (KG zO) i' j' hj', DP]) (fun i' hi' => by
        have e1 : upd2 (pel b k (sI k i) i k) i n (b i n - f * b k n) i' n = upd2 (pel b k (sI k i) i n) i n (b i n - f * b k n) i' n := by
         unfold upd2; split
         ·rfl
         ·exact UR zO i'
        rw [e1, hst, IG (c := n + 1) (t := sI k (i + 1)) (KG zO) i' n zO, DP])
       simp (disch := omega) only [go_sem, ↓AH, s0, s1', s6, s7, s9, s10, s11, s16, s17, hrt, hml, cri, crk, mc, hre]
       (repeat (with_reducible refine Or.inr ?_))
       exact keyJ3 _ ⟨(by simp [AA, s0] <;> omega), (by simp [AA, s1'] <;> omega), (by simp [AA, s6] <;> omega), (by simp [AA, s7] <;> omega), zV, (by simp [AA, s16] <;> omega), (by simp [AA, s17] <;> omega), HN, zT, zO, hin3⟩ zO
    ·obtain rfl : i = n := by omega
     simp (disch := omega) only [go_sem, ↓AH, t0, t1, t6, t7, t9, t16, t17]
     exact keyJ (k + 1, g2, elmI b k) _ ⟨(by simp [AA, t0] <;> omega), (by simp [AA, t1] <;> omega), (by simp [AA, t6] <;> omega), (by simp [AA, t16] <;> omega), zV, hgo, H2.congr (fun i' j hi' _ => N0 hi') (fun i' hi' => N0 hi'), hnx3, hin⟩ zT
  ·obtain rfl : p = n := by omega
   have hpv : piv u k p = p := IE hkp (Nat.le_refl _) hz (.inl rfl)
   rw [UQ hin hu hpv] at hQ
   simp (disch := omega) only [go_sem, ↓AH, r0, r1, r6, r7, r8, r16, r17]
   rw [← hQ]
   exact JD (.inl rfl) rfl zV zV (fun i hi he => by
    simp only [solE, List.mem_cons, not_or] at he
    exact H1.hold i hi he.1 (by simp only [List.mem_cons, not_or]; exact ⟨he.2.1, he.2.2⟩)) hnx
 ·obtain rfl : n = k := by omega
  obtain ⟨hbf, hsf⟩ := hX u hu
  have huU := hU n (Nat.le_refl n) u hu
  have hdia := WY (Nat.le_refl n) hu
  rw [hu] at hQ
  clear hJ
  simp (disch := omega) only [go_sem, ↓AH, g0, g1, g6, g16, g17]
  refine AM (fun (t : Nat) st => st.fr 0 = .ref o n 0 n ∧ st.fr 1 = .ref r n 0 n ∧ st.fr 6 = .int .i64 n ∧ st.fr 12 = .int .i64 ((n : Int) - 1 - (t : Int)) ∧ SolH U M h st.h nx o r n g S u (bkM u n t) e1 e2 e3 g3 ∧ nx ≤ st.nx ∧ t ≤ n) (fun t => n - t) 0
   ⟨(by simp [AA, g0] <;> omega), (by simp [AA, g1] <;> omega), (by simp [AA, g6] <;> omega), zV, H1.congr (fun _ _ _ _ => rfl) (fun i _ => by unfold bkM; rw [if_pos rfl, bk]), hnx, zO⟩ ?_
  rintro t ⟨fr2, h2, nx2⟩ ⟨r0, r1, r6, r12, H2, hnx2, ht⟩ J2 hJ2
  simp only at r0 r1 r6 r12 H2 hnx2
  by_cases htn : t < n
  ·have keyJ2 := hJ2 (t + 1)
   clear hJ2
   obtain ⟨q, hq⟩ : ∃ q, n - 1 - t = q := ⟨_, rfl⟩
   have hqn : q < n := by omega
   have hqi : (n : Int) - 1 - (t : Int) = q := by omega
   rw [hqi] at r12
   simp (disch := omega) only [go_sem, ↓AH, r0, r1, r6, r12]
   refine AM (fun (m : Nat) st => st.fr 0 = .ref o n 0 n ∧ st.fr 1 = .ref r n 0 n ∧ st.fr 6 = .int .i64 n ∧ st.fr 12 = .int .i64 q ∧ st.fr 13 = .int .i64 ((q + 1 + m : Nat) : Int) ∧ SolH U M h st.h nx o r n g S u (bkP u n t m) e1 e2 e3 g3 ∧ nx ≤ st.nx ∧ m ≤ t) (fun m => t - m) 0
    ⟨(by simp [AA, r0] <;> omega), (by simp [AA, r1] <;> omega), (by simp [AA, r6] <;> omega), (by simp [AA, r12] <;> omega), zV, H2.congr (fun _ _ _ _ => rfl) (fun i _ => Rp.symm), hnx2, zO⟩ ?_
   rintro m ⟨fr3, h3, nx3⟩ ⟨t0, t1, t6, t12, t13, H3, hnx3, hm⟩ J3 hJ3
   simp only at t0 t1 t6 t12 t13 H3 hnx3
   have hout := H3.mat.outer
   have hrq := H3.mat.row q hqn
   have atq := Ba (rid := g) (c := n) hqn
   have hrt := H3.right
   have crq : (mapF n fun i => bkP u n t m i n)[q]? = some (sbX u (bk u n t) q m) := by rw [A5 hqn]; unfold bkP; rw [if_pos rfl, if_pos hq.symm, hq]
   by_cases hmt : m < t
   ·have hjn : q + 1 + m < n := by omega
    have crj : (mapF n fun i => bkP u n t m i n)[q + 1 + m]? = some (bk u n t (q + 1 + m)) := by rw [A5 hjn]; unfold bkP; rw [if_pos rfl, if_neg zO]
    have cqj : (mapF n (u q))[q + 1 + m]? = some (u q (q + 1 + m)) := A5 hjn
    have hre : ∀ z, M ≤ z → rI z (sbX u (bk u n t) q m - u q (q + 1 + m) * bk u n t (q + 1 + m)) = rI M (sbX u (bk u n t) q (m + 1)) := fun z hz => by
     have := hsf t htn (m + 1) hmt
     rw [hq] at this
     exact NM this hz
    have hL : (ratL M (mapF n fun i => bkP u n t m i n)).set q (rI M (sbX u (bk u n t) q (m + 1))) = ratL M (mapF n fun i => bkP u n t (m + 1) i n) := by
     rw [Db, De]
     congr 1
     refine Bi fun i _ => ?_
     unfold bkP
     rw [if_pos rfl, if_pos rfl, hq]
     by_cases e : i = q
     ·rw [if_pos e, if_pos e]
     ·rw [if_neg e, if_neg e, if_neg e]
    have HR := H3.putR hL (hrS g H3.mem) hor
    rw [hL] at HR
    simp (disch := omega) only [go_sem, ↓AH, t0, t1, t6, t12, t13, hout, hrl, atq, hrq, hul, cqj, hrt, hml, crq, crj, hre, hL]
    (repeat (with_reducible refine Or.inr ?_))
    exact hJ3 (m + 1) _ ⟨(by simp [AA, t0] <;> omega), (by simp [AA, t1] <;> omega), (by simp [AA, t6] <;> omega), (by simp [AA, t12] <;> omega), zV, HR, hnx3, hmt⟩ zO
   ·obtain rfl : t = m := by omega
    have cqq : (mapF n (u q))[q]? = some (u q q) := A5 hqn
    have hov := Ht (m := M) (n := U) (a := sbX u (bk u n t) q t) (b := u q q) zO (fun e => hdia q hqn (Bk.1 e))
    have hre : rI (M + U) (sbX u (bk u n t) q t / u q q) = rI M (bk u n (t + 1) q) := by
     have e : bk u n (t + 1) q = sbX u (bk u n t) q t / u q q := by rw [bk]; simp only; rw [if_pos hq.symm, hq]
     rw [← e]
     exact NM (hbf (t + 1) htn q hqn) zO
    have hL : (ratL M (mapF n fun i => bkP u n t t i n)).set q (rI M (bk u n (t + 1) q)) = ratL M (mapF n fun i => bkM u n (t + 1) i n) := by
     rw [Db, De]
     congr 1
     refine Bi fun i _ => ?_
     unfold bkP bkM
     rw [if_pos rfl, if_pos rfl, hq]
     by_cases e : i = q
     ·rw [if_pos e, e]
     ·rw [if_neg e, if_neg e, bk]; simp only; rw [if_neg zO]
    have HR := H3.putR hL (hrS g H3.mem) hor
    rw [hL] at HR
    simp (disch := omega) only [go_sem, ↓AH, t0, t1, t6, t12, t13, hout, hrl, atq, hrq, hul, cqq, hrt, hml, crq, hov, hre, hL]
    (repeat (with_reducible refine Or.inr ?_))
    exact keyJ2 _ ⟨(by simp [AA, t0] <;> omega), (by simp [AA, t1] <;> omega), (by simp [AA, t6] <;> omega), by simp [AA]; omega, HR, hnx3, htn⟩ zO
  ·obtain rfl : n = t := by omega
   have hneg : (n : Int) - 1 - (n : Int) = -1 := by omega
   rw [hneg] at r12
   simp (disch := omega) only [go_sem, ↓AH, r0, r1, r6, r12]
   rw [← hQ]
   refine JD (.inl rfl) rfl zV zV (fun i hi he => ?_) hnx2
   simp only [solY, AA]
   by_cases e : i = r
   ·rw [if_pos e, e, H2.right]
    congr 1
    exact congrArg (ratL M) (Bi fun i _ => by unfold bkM; rw [if_pos rfl])
   ·rw [if_neg e]; exact H2.hold i hi e he
theorem WZ : elT Tryz.prog 94 = some 3 := by kernel_rfl
theorem Wa : okT Tryz.prog 94 = true := by kernel_rfl
theorem Wb : aggT Tryz.prog 94 = false := by kernel_rfl
theorem Wc : szT Tryz.prog 94 = 1 := by kernel_rfl
theorem Wd : okT Tryz.prog 3 = true := by kernel_rfl
theorem UT : (Tryz.prog.info? 3).isSome = true := by kernel_rfl
theorem We : szT Tryz.prog 3 = 1 := by kernel_rfl
theorem Wf : aggT Tryz.prog 3 = false := by kernel_rfl
theorem Wg : byT Tryz.prog 3 = 8 := by kernel_rfl
theorem Wh : zeroA Tryz.prog 3 = some (.int .i64 0) := by kernel_rfl
theorem UU : zokT Tryz.prog 3 = true := by kernel_rfl
theorem Wi : u32T Tryz.prog 3 = false := by kernel_rfl
attribute [go_sem] WZ Wa Wb Wc Wd UT We Wf Wg Wh UU Wi
theorem Lm {n k : Nat} (h : k < n) : (List.range n)[k]? = some k := by rw [List.getElem?_range h]
set_option maxHeartbeats 8000000 in
theorem PQ {fr : Nat → AV} {h : Nat → Blk} {nx sid r U : Nat} {x : NR} {e g : Bool} (H : NOk x r) (hU1 : 3000 ≤ U) (hU2 : U ≤ 1000000000) (hb : h sid = ⟨3, natA .i64 (List.range r), e, g, true⟩) (hid : sid < nx) :
  InOk Tryz.prog ⟨fr, h, nx⟩ 61 [.sl 47 (rwI x.rts) [] false, .ref sid r 0 r, .bool true] (matA true (.own 47 (rowsO 76 false r fun i => ratL U (mapF r (netM x r i))) [] false) ⟨fr, cutH h h nx [], nx⟩).1 (matA true (.own 47 (rowsO 76 false r fun i => ratL U (mapF r (netM x r i))) [] false) ⟨fr, cutH h h nx [], nx⟩).2 := by
 refine FK (W := ⟨fun _ => false, fun _ => none⟩) AS Tryz.func61 rfl zK zL (fun _ _ _ => .inl rfl) (AC ?_)
 generalize hQ : PostN Tryz.prog Tryz.f61 _ _ _ _ = Q
 have hsl : (natA .i64 (List.range r)).length = r := by rw [AF, List.length_range]
 have hrl : (rwI x.rts).length = r := by rw [FC, H.rts]
 have h6 := H.n6
 have h1 := H.n1
 have hF := IK H
 have hnD := @Nw x r
 have hnO := @Nx x r
 generalize netM x r = rm at *
 have n1 : (sid = nx) = False := by simp; omega
 simp (disch := omega) only [go_sem, ↓AH, hb, n1, hsl, List.length_range]
 refine AM (fun (⟨i, rid⟩ : Nat × (Nat → Nat)) st => st.fr 0 = .sl 47 (rwI x.rts) [] false ∧ st.fr 1 = .ref sid r 0 r ∧ st.fr 2 = .bool true ∧ st.fr 7 = .ref nx i 0 i ∧ st.fr 15 = .ref sid r 0 r ∧ st.fr 16 = .int .i64 r ∧ st.fr 17 = .int .i64 i ∧
   st.h nx = ⟨47, refsL rid i r, (i == 0), true, true⟩ ∧ RowsG 76 (ratL U) st.h (nx + 1) st.nx nx rid i r rm false ∧ (∀ k, k < nx → st.h k = h k) ∧ nx + 1 ≤ st.nx ∧ i ≤ r) (fun (⟨i, _⟩ : Nat × (Nat → Nat)) => r - i) (0, fun i => i)
  ⟨zV, zV, zV, zV, zV, zV, zV, by simp (disch := omega) [AA, refsL], RowsG.zero, fun i hi => by simp (disch := omega) only [AA, if_neg], zS, zO⟩ ?_
 rintro ⟨i, rid⟩ ⟨fr1, h2, nx1⟩ ⟨g0, g1, g2, g7, g15, g16, g17, hm, HR, hold, hnx, hi⟩ J hJ
 simp only at g0 g1 g2 g7 g15 g16 g17 hm HR hold hnx
 have hb1 : h2 sid = ⟨3, natA .i64 (List.range r), e, g, true⟩ := by rw [hold sid hid]; exact hb
 by_cases hin : i < r
 ·have keyJ := fun rid' => hJ (i + 1, rid')
  clear hJ
  have hri := Lm hin
  have m1 : (sid = nx1) = False := by simp; omega
  simp (disch := omega) only [go_sem, ↓AH, g0, g1, g2, g7, g15, g16, g17, hb1, hsl, List.length_range, hri, m1]
  refine AM (fun (j : Nat) st => st.fr 0 = .sl 47 (rwI x.rts) [] false ∧ st.fr 1 = .ref sid r 0 r ∧ st.fr 2 = .bool true ∧ st.fr 7 = .ref nx i 0 i ∧ st.fr 15 = .ref sid r 0 r ∧ st.fr 16 = .int .i64 r ∧ st.fr 17 = .int .i64 i ∧
    st.fr 9 = .int .i64 i ∧ st.fr 10 = .ref nx1 j 0 j ∧ st.fr 22 = .ref sid r 0 r ∧ st.fr 23 = .int .i64 r ∧ st.fr 24 = .int .i64 j ∧
    st.h nx1 = ⟨76, ratL U (mapF j (rm i)), (j == 0), true, true⟩ ∧ (∀ k, k < nx1 → st.h k = h2 k) ∧ nx1 + 1 ≤ st.nx ∧ j ≤ r) (fun j => r - j) 0
   ⟨(by simp [AA, g0] <;> omega), (by simp [AA, g1] <;> omega), (by simp [AA, g2] <;> omega), (by simp [AA, g7] <;> omega), (by simp [AA, g15] <;> omega), (by simp [AA, g16] <;> omega), (by simp [AA, g17] <;> omega), zV, zV, zV, zV, zV, by simp (disch := omega) [AA, mapF, ratL], fun k hk => by simp (disch := omega) only [AA, if_neg], zS, zO⟩ ?_
  rintro j ⟨fr2, h3, nx2⟩ ⟨s0, s1, s2, s7, s15, s16, s17, s9, s10, s22, s23, s24, hrow, hold3, hnx2, hj⟩ J2 hJ2
  simp only at s0 s1 s2 s7 s15 s16 s17 s9 s10 s22 s23 s24 hrow hold3 hnx2
  have hb2 : h3 sid = ⟨3, natA .i64 (List.range r), e, g, true⟩ := by rw [hold3 sid zO]; exact hb1
  have hel : (ratL U (mapF j (rm i))).length = j := by rw [Ab, Ai]
  by_cases hjr : j < r
  ·have key := hJ2 (j + 1)
   clear hJ2
   have hrj := Lm hjr
   have hsn : ratL U (mapF j (rm i)) ++ [rI U (rm i j)] = ratL U (mapF (j + 1) (rm i)) := by rw [DN, GR]
   obtain ⟨rw1, hr1⟩ := AI (xs := x.rts) (i := i) (by rw [H.rts]; exact hin)
   have hrl1 := (H.row i rw1 hr1).1
   obtain ⟨q1, hq1⟩ := AI (xs := rw1) (i := j) zO
   obtain ⟨rw2, hr2⟩ := AI (xs := x.rts) (i := j) (by rw [H.rts]; exact hjr)
   have hrl2 := (H.row j rw2 hr2).1
   obtain ⟨q, hq⟩ := AI (xs := rw2) (i := i) zO
   have hqe : rtF x j i = q := Rn hr2 hq
   have at1 := J8 hr1
   have at2 := J8 hr2
   have hM1 : (ratL 700 rw1).length = r := by rw [Ab, hrl1]
   have hM2 : (ratL 700 rw2).length = r := by rw [Ab, hrl2]
   have fq : fits 700 q := hqe ▸ H.rt j i
   have k1 : (nx1 = nx2) = False := by simp; omega
   have k2 : (nx2 = nx1) = False := by simp; omega
   have k3 : (sid = nx2) = False := by simp; omega
   have k4 : (sid = nx1) = False := by simp; omega
   have hz1 : (j + 1 == 0) = false := by simp
   have hone : CW Tryz.prog 47 [.int .i64 1] (rI 64 1) := E8 (n := 1) zO zO
   by_cases hij : i = j
   ·subst hij
    obtain rfl : rw1 = rw2 := Option.some.inj (hr1.symm.trans hr2)
    obtain rfl : q = q1 := Option.some.inj (hq.symm.trans hq1)
    have hv : ∀ k, 765 ≤ k → rI k (-q + 1) = rI U (rm i i) := fun k hk => by
     have e : rm i i = -q + 1 := by rw [hnD hin, hqe]
     have f : fits 765 (-q + 1) := Dz (m := 700) (n := 64) (Cb fq) (II _ zD)
     rw [e]
     exact Uo (Az f hk) (Az f zO)
    simp (disch := omega) only [go_sem, ↓AH, s0, s1, s2, s7, s15, s16, s17, s9, s10, s22, s23, s24, hb2, hsl, List.length_range, hri, hrj, hrow, hel, hrl, at1, at2, hM1, hM2, hq1, hq, hv, hsn, k1, k2, k3, k4, reach, hone, beq_self_eq_true, decide_true]
    (repeat (with_reducible refine Or.inr ?_))
    exact key _ ⟨(by simp [AA, s0] <;> omega), (by simp [AA, s1] <;> omega), (by simp [AA, s2] <;> omega), (by simp [AA, s7] <;> omega), (by simp [AA, s15] <;> omega), (by simp [AA, s16] <;> omega), (by simp [AA, s17] <;> omega), (by simp [AA, s9] <;> omega), zV, (by simp [AA, s22] <;> omega), (by simp [AA, s23] <;> omega), zV, by simp (disch := omega) only [AA, ↓reduceIte, if_neg, if_pos, hz1], fun k hk => by simp (disch := omega) only [AA, if_neg, hold3 k hk], zT, hjr⟩ zO
   ·have hv : rI 700 (-q) = rI U (rm i j) := by
     have e : rm i j = -q := by rw [hnO hjr hij, hqe]
     rw [e]
     exact Uv (Cb fq) zO
    simp (disch := omega) only [go_sem, ↓AH, s0, s1, s2, s7, s15, s16, s17, s9, s10, s22, s23, s24, hb2, hsl, List.length_range, hri, hrj, hrow, hel, hrl, at1, at2, hM1, hM2, hq1, hq, hv, hsn, k1, k2, k3, k4, reach, hone]
    (repeat (with_reducible refine Or.inr ?_))
    exact key _ ⟨(by simp [AA, s0] <;> omega), (by simp [AA, s1] <;> omega), (by simp [AA, s2] <;> omega), (by simp [AA, s7] <;> omega), (by simp [AA, s15] <;> omega), (by simp [AA, s16] <;> omega), (by simp [AA, s17] <;> omega), (by simp [AA, s9] <;> omega), zV, (by simp [AA, s22] <;> omega), (by simp [AA, s23] <;> omega), zV, by simp (disch := omega) only [AA, ↓reduceIte, if_neg, if_pos, hz1], fun k hk => by simp (disch := omega) only [AA, if_neg, hold3 k hk], zT, hjr⟩ zO
  ·obtain rfl : j = r := by omega
   have hm3 : h3 nx = ⟨47, refsL rid i j, (i == 0), true, true⟩ := by rw [hold3 _ zO]; exact hm
   have hol : (refsL rid i j).length = i := CQ
   have hso : refsL rid i j ++ [.ref nx1 j 0 j] = refsL (ridS rid i nx1) (i + 1) j := IH
   have hz1 : (i + 1 == 0) = false := by simp
   have hz2 : (j == 0) = false := by simp; omega
   rw [hz2] at hrow
   have k1 : (nx1 = nx) = False := by simp; omega
   have k2 : (nx = nx1) = False := by simp; omega
   simp (disch := omega) only [go_sem, ↓AH, s0, s1, s2, s7, s15, s16, s17, s9, s10, s22, s23, s24, hm3, hol, reach, k1, k2, hso]
   (repeat (with_reducible refine Or.inr ?_))
   exact keyJ (ridS rid i nx1) _ ⟨(by simp [AA, s0] <;> omega), (by simp [AA, s1] <;> omega), (by simp [AA, s2] <;> omega), zV, (by simp [AA, s15] <;> omega), (by simp [AA, s16] <;> omega), zV, by simp (disch := omega) only [AA, ↓reduceIte, if_neg, if_pos, hz1],
    HR.add (by simp (disch := omega) only [AA, ↓reduceIte, if_neg, if_pos, hrow]) (fun i h1 h2 h3 => by simp (disch := omega) only [AA, if_neg, hold3 i]) zO zO zT zO, fun i hi => by simp (disch := omega) only [AA, if_neg, hold3 i, hold i hi], zT, zO⟩ zT
 ·obtain rfl : i = r := by omega
  have hz : (i == 0) = false := by simp; omega
  rw [hz] at hm
  simp (disch := omega) only [go_sem, ↓AH, g0, g1, g2, g7, g15, g16, g17]
  rw [← hQ]
  refine ⟨trivial, ⟨.ref nx i 0 i, nx :: (List.range i).map rid, by simp [resV, resL, resA, AA], ?_, ?_, ?_⟩, fun k hk _ => by simp only; exact hold k hk⟩
  ·exact PC (d := 6) (by simp only; exact hm) (fun k hk => ⟨by simp only; exact HR.row k hk, by rw [Ab, Ai], zS⟩)
  ·refine List.nodup_cons.2 ⟨fun hm => ?_, ?_⟩
   ·obtain ⟨k, hk, e⟩ := List.mem_map.1 hm
    exact (HR.at_ k (List.mem_range.1 hk)).2.2 e
   ·rw [List.Nodup, List.pairwise_map]
    exact List.Pairwise.imp_of_mem (fun {a b} ha hb hne e => hne (HR.inj a b (List.mem_range.1 ha) (List.mem_range.1 hb) e)) List.nodup_range
  ·intro k hk
   rcases List.mem_cons.1 hk with rfl | hk
   ·exact Nat.le_refl _
   ·obtain ⟨q, hq, rfl⟩ := List.mem_map.1 hk
    have := (HR.at_ q (List.mem_range.1 hq)).1
    omega
theorem Rq {qs : List Rat} (h1 : 1 ≤ qs.length) (h2 : qs.length ≤ 1000) : CallOk Tryz.prog 62 [lI 700 qs] (.own 76 (ratL 700 qs) [] false) [] := by
 obtain ⟨n, hn⟩ : ∃ n, qs.length = n := ⟨_, rfl⟩
 rw [hn] at h1 h2
 have hbl : (ratL 700 qs).length = n := by rw [Ab, hn]
 (refine AB (W := fun _ => false) true AS Tryz.func62 rfl zK zL (AC ?_); generalize hQ : Post Tryz.prog Tryz.f62 _ _ _ _ _ = Q; simp only [stIn, matL, matA, st00])
 simp (disch := omega) only [go_sem, hbl, reach, List.nil_append, hn]
 rw [← hQ]
 exact Fl (id := 0) (n := n) (len := n) (.inl rfl) rfl (by simp [AA, hbl, hn] <;> omega) zU (by simp [AA, hbl, hn]) zU zU (Nat.le_refl _) (by simp only [AA, ↓reduceIte]; exact List.take_of_length_le zO) zU zU Cp rfl
theorem UV {x : NR} {r : Nat} (H : NOk x r) : x.arr = mapF r (arrF x) := by
 apply List.ext_getElem
 ·rw [Ai, H.arr]
 ·intro i h1 h2
  simp [mapF, arrF, List.getD_eq_getElem?_getD, List.getElem?_eq_getElem h1]
theorem UW {x : NR} {r M : Nat} (H : NOk x r) (hM : 700 ≤ M) : ratL 700 x.arr = ratL M (mapF r fun i => netM x r i r) := by
 have e : (fun i => netM x r i r) = arrF x := by funext i; exact Lk
 rw [e, ← UV H]
 exact List.map_congr_left fun q hq => Uv (H.fa q hq) hM
def flI (M : Nat) (x : NR) (n : Nat) : AV := match gI (netM x n) n n with
 | some u => lI M (mapF n (bk u n n))
 | none => .nil
set_option maxHeartbeats 8000000 in
theorem Rr {fr : Nat → AV} {h : Nat → Blk} {nx id r U M : Nat} {x : NR} (H : NOk x r) (hU1 : 3000 ≤ U) (hU2 : U ≤ 1000000000) (hUM : U ≤ M) (hM : M ≤ 50000000000) (hgI : ∀ k, k ≤ r → ∀ u, gI (netM x r) r k = some u → FitM U u r (r + 1))
  (hbk : ∀ u, gI (netM x r) r r = some u → (∀ t, t ≤ r → ∀ i, i < r → fits M (bk u r t i)) ∧ ∀ t, t < r → ∀ m, m ≤ t → fits M (sbX u (bk u r t) (r - 1 - t) m)) (hb : h id = ⟨50, [x.iv], true, false, true⟩) (hid : id < nx) :
  InOk Tryz.prog ⟨fr, h, nx⟩ 34 [.ptr id 1 0 0] (flI M x r) ⟨fr, h, nx⟩ := by
 refine Ct (W := ⟨fun g => g == 61 || g == 62 || g == 60, fun q => if q = 7 then some [(1, 1), (9, 5)] else none⟩) AS Tryz.func34 rfl zK zL (AC ?_)
 generalize hQ : PostS Tryz.prog Tryz.f34 _ _ _ _ = Q
 have hsl : ∀ i, (natA .i64 (List.range i)).length = i := fun i => by rw [AF, List.length_range]
 have hrl : (rwI x.rts).length = r := by rw [FC, H.rts]
 have h6 := H.n6
 have h1 := H.n1
 have n1 : (id = nx) = False := by simp; omega
 have hless := fun (fr : Nat → AV) (h : Nat → Blk) (nx' : Nat) (e g : Bool) (h1 : h nx = ⟨3, natA .i64 (List.range r), e, g, true⟩) (h2 : nx < nx') => PQ (fr := fr) (h := h) (nx := nx') (sid := nx) (U := U) H hU1 hU2 h1 h2
 have harr := UW (M := M) H zO
 unfold flI at hQ
 generalize netM x r = rm at *
 simp only [PB true (T := 47) (t := 76) (e := false) (e2 := false) (r := r) (c := r) (row := fun i => ratL U (mapF r (rm i))) (fun i _ => ⟨by rw [Ab, Ai], zS⟩), JC] at hless
 simp (disch := omega) only [go_sem, ↓AH, hb, n1, hrl]
 refine AM (fun (i : Nat) st => st.fr 0 = .ptr id 1 0 0 ∧ st.fr 3 = .ref nx i 0 i ∧ st.fr 12 = .int .i64 r ∧ st.fr 13 = .int .i64 i ∧ st.h = upd h nx ⟨3, natA .i64 (List.range i), (i == 0), true, true⟩ ∧ st.nx = nx + 1 ∧ i ≤ r) (fun i => r - i) 0
  ⟨zV, zV, zV, zV, by simp [natA], rfl, zO⟩ ?_
 rintro i ⟨fr1, h2, nx1⟩ ⟨g0, g3, g12, g13, eh, enx, hi⟩ J hJ
 simp only at g0 g3 g12 g13 eh enx
 subst eh enx
 by_cases hin : i < r
 ·have key := hJ (i + 1)
  clear hJ
  have hz1 : (i + 1 == 0) = false := by simp
  have hupd : ∀ z w : Blk, upd (upd h nx z) nx w = upd h nx w := by intro z w; funext j; simp only [AA]; split <;> rfl
  have hsi := hsl i
  simp (disch := omega) only [go_sem, ↓AH, g0, g3, g12, g13, hsi, List.length_range, hupd, reach]
  (repeat (with_reducible refine Or.inr ?_))
  exact key _ ⟨(by simp [AA, g0] <;> omega), zV, (by simp [AA, g12] <;> omega), zV, by rw [List.range_succ]; simp only [hz1], rfl, hin⟩ zO
 ·obtain rfl : i = r := by omega
  have hz : (i == 0) = false := by simp; omega
  rw [hz] at *
  obtain ⟨h2, hh2⟩ : ∃ h2, upd h nx ⟨3, natA .i64 (List.range i), false, true, true⟩ = h2 := ⟨_, rfl⟩
  have hb2 : h2 id = ⟨50, [x.iv], true, false, true⟩ := by rw [← hh2, AA, if_neg zO]; exact hb
  have hs2 : h2 nx = ⟨3, natA .i64 (List.range i), false, true, true⟩ := by rw [← hh2, AA, if_pos rfl]
  have ho2 : ∀ k, k < nx → h2 k = h k := fun k hk => by rw [← hh2, AA, if_neg zO]
  rw [hh2]
  replace hless := fun fr => hless fr h2 (nx + 1) _ _ hs2 zO
  have hM0 : MatH 47 76 (ratL U) (upd (rowsH h2 (nx + 1) 76 false true i fun k => ratL U (mapF i (rm k))) (nx + 1 + i) ⟨47, refsL (fun k => nx + 1 + k) i i, false, true, true⟩) (nx + 1 + i) (fun k => nx + 1 + k) i i rm false false :=
   ⟨zU, fun k hk => by
    rw [AA, if_neg zO, rowsH, if_pos zO]
    rw [show nx + 1 + k - (nx + 1) = k by omega], fun a b _ _ e => by omega, fun a ha => by omega⟩
  have hol0 : ∀ k, k ≤ nx → (upd (rowsH h2 (nx + 1) 76 false true i fun k => ratL U (mapF i (rm k))) (nx + 1 + i) ⟨47, refsL (fun k => nx + 1 + k) i i, false, true, true⟩) k = h2 k := fun k hk => by
   rw [AA, if_neg zO, rowsH, if_neg zO]
  have hrd : ∀ k, k < i → nx + 1 ≤ (fun k => nx + 1 + k) k ∧ (fun k => nx + 1 + k) k < nx + 1 + i := fun k hk => by simp only; omega
  have hod : nx + 1 + i < nx + 1 + i + 1 := by omega
  generalize (upd (rowsH h2 (nx + 1) 76 false true i fun k => ratL U (mapF i (rm k))) (nx + 1 + i) ⟨47, refsL (fun k => nx + 1 + k) i i, false, true, true⟩) = hh at hM0 hol0 hless
  generalize hnn : nx + 1 + i + 1 = nn at *
  generalize hoo : nx + 1 + i = o at *
  generalize (fun k => nx + 1 + k) = rid at *
  have hbh : hh id = ⟨50, [x.iv], true, false, true⟩ := by rw [hol0 id zO]; exact hb2
  simp (disch := omega) only [go_sem, ↓AH, g0, g3, g12, g13, hb2]
  refine Aj (hless _) zK (.inl rfl) ?_
  have hcl := Rq (qs := x.arr) (by rw [H.arr]; omega) (by rw [H.arr]; omega)
  simp (disch := omega) only [go_sem, ↓AH, g0, g3, g12, g13, hbh]
  refine Js hcl zK zP Cp rfl rfl ?_
  simp only [List.length_nil, Nat.add_zero, List.append_nil, Ab, H.arr, harr, Ai]
  have hMt : MatH 47 76 (ratL U) (upd hh nn ⟨76, ratL M (mapF i fun k => rm k i), false, true, true⟩) o rid i i rm false false := hM0.other zO (fun k hk => by have := hrd k hk; omega)
  have hS : ∀ k ∈ (List.range i).map rid, nx + 1 ≤ k ∧ k < o := fun k hk => by
   obtain ⟨q, hq, rfl⟩ := List.mem_map.1 hk
   exact hrd q (List.mem_range.1 hq)
  have HS : SolH U M (upd hh nn ⟨76, ratL M (mapF i fun k => rm k i), false, true, true⟩) (upd hh nn ⟨76, ratL M (mapF i fun k => rm k i), false, true, true⟩) (nn + 1) o nn i rid ((List.range i).map rid) rm rm false false false true :=
   ⟨hMt, by rw [AA, if_pos rfl], fun k hk => List.mem_map.2 ⟨k, List.mem_range.2 hk, rfl⟩, fun _ _ _ _ => rfl⟩
  have hsol := fun fr => US (fr := fr) HS zO zO zO (fun k hk => by have := hS k hk; omega) zO zO hM hU2 hgI hbk hUM
  cases hg : gI rm i i with
  | none =>
   rw [hg] at hsol hQ
   simp only [solX, solE, solY] at hsol
   simp only at hQ
   have hci : ∀ k, k < nx → cutH (upd hh nn ⟨76, ratL M (mapF i fun k => rm k i), false, true, true⟩) (upd hh nn ⟨76, ratL M (mapF i fun k => rm k i), false, true, true⟩) (nn + 1) (nn :: o :: (List.range i).map rid) k = h k := fun k hk => by
    rw [cutH, if_neg, if_pos zO, AA, if_neg zO, hol0 k zO]
    ·exact ho2 k hk
    ·intro hm
     rcases List.mem_cons.1 hm with e | hm
     ·omega
     ·rcases List.mem_cons.1 hm with e | hm
      ·omega
      ·have := (hS _ hm).1; omega
   generalize cutH (upd hh nn ⟨76, ratL M (mapF i fun k => rm k i), false, true, true⟩) (upd hh nn ⟨76, ratL M (mapF i fun k => rm k i), false, true, true⟩) (nn + 1) (nn :: o :: (List.range i).map rid) = hc at *
   simp (disch := omega) only [go_sem, ↓AH]
   refine Aj (hsol _) zK (.inl rfl) ?_
   simp (disch := omega) only [go_sem, ↓AH, hb2]
   rw [← hQ]
   exact DO (.inl rfl) rfl zV rfl (fun k hk _ => by simp only; exact hci k hk)
  | some u =>
   rw [hg] at hsol hQ
   simp only [solX, solE, solY] at hsol
   simp only at hQ
   have hnm : ∀ k, k < nx ∨ k = nn → k ∉ o :: (List.range i).map rid := fun k hk hm => by
    rcases List.mem_cons.1 hm with e | hm
    ·omega
    ·have := (hS _ hm); omega
   have hci : ∀ k, k < nx → cutH (upd hh nn ⟨76, ratL M (mapF i fun k => rm k i), false, true, true⟩) (upd (upd hh nn ⟨76, ratL M (mapF i fun k => rm k i), false, true, true⟩) nn ⟨76, ratL M (mapF i (bk u i i)), false, true, true⟩) (nn + 1) (o :: (List.range i).map rid) k = h k := fun k hk => by
    rw [cutH, if_neg (hnm _ (.inl hk)), if_pos zO, AA, if_neg zO, AA, if_neg zO, hol0 k zO]
    exact ho2 k hk
   have hcr : cutH (upd hh nn ⟨76, ratL M (mapF i fun k => rm k i), false, true, true⟩) (upd (upd hh nn ⟨76, ratL M (mapF i fun k => rm k i), false, true, true⟩) nn ⟨76, ratL M (mapF i (bk u i i)), false, true, true⟩) (nn + 1) (o :: (List.range i).map rid) nn = ⟨76, ratL M (mapF i (bk u i i)), false, true, true⟩ := by
    rw [cutH, if_neg (hnm _ (.inr rfl)), if_pos zO, AA, if_pos rfl]
   generalize cutH (upd hh nn ⟨76, ratL M (mapF i fun k => rm k i), false, true, true⟩) (upd (upd hh nn ⟨76, ratL M (mapF i fun k => rm k i), false, true, true⟩) nn ⟨76, ratL M (mapF i (bk u i i)), false, true, true⟩) (nn + 1) (o :: (List.range i).map rid) = hc at *
   simp (disch := omega) only [go_sem, ↓AH]
   refine Aj (hsol _) zK (.inl rfl) ?_
   simp (disch := omega) only [go_sem, ↓AH, hb2]
   rw [← hQ]
   exact B6 (id := nn) (n := i) (off := 0) (len := i) (.inl rfl) rfl zV (by simp only [hcr]) (by simp only [hcr]; rw [Ab, Ai]) (by simp only [hcr]) zO zO (by simp only [hcr, List.drop_zero]; exact List.take_of_length_le (by rw [Ab, Ai]; exact Nat.le_refl _)) Cp (fun k hk _ => by simp only; exact hci k hk)
theorem UX {fr : Nat → AV} {h : Nat → Blk} {nx id r : Nat} {x : NR} (H : NOk x r) (hb : h id = ⟨50, [x.iv], true, false, true⟩) (hid : id < nx) :
 InOk Tryz.prog ⟨fr, h, nx⟩ 34 [.ptr id 1 0 0] (flI relB x r) ⟨fr, h, nx⟩ := Rr (U := relU) H zD zD zD zD (Rm H) (fun u hu => WX H hu) hb hid
def ldM : Nat := relU + relU + 700
theorem KH {f : Nat → Rat} {i : Nat} : stableB (mapF (i + 1) f) = (stableB (mapF i f) && decide (f i < 1)) := by simp [stableB, DN]
theorem Rs {q : Rat} (h : 0 < q) : q.num ≠ 0 := fun h0 => by rw [Rat.num_eq_zero] at h0; rw [h0] at h; exact absurd h zD
set_option maxHeartbeats 4000000 in
theorem Ln {fr : Nat → AV} {h : Nat → Blk} {nx id r U L : Nat} {x : NR} (H : NOk x r) (hM : U + U + 700 = L) (hM2 : L ≤ 100000000) (hfl : ∀ fr : Nat → AV, InOk Tryz.prog ⟨fr, h, nx⟩ 32 [.ptr id 1 0 0] (flV U x r) ⟨fr, h, nx⟩) (hb : h id = ⟨41, [x.sv], true, false, true⟩) (hid : id < nx) :
  InOk Tryz.prog ⟨fr, h, nx⟩ 37 [.ptr id 1 0 0] (.tup [lS L (ldL x r), .bool (stableB (ldL x r))]) ⟨fr, h, nx⟩ := by
 refine Ct (W := ⟨fun _ => false, fun q => if q = 7 then some [(2, 12), (3, 12), (7, 12), (9, 12), (10, 12), (11, 12)] else none⟩) AS Tryz.func37 rfl zK zL (AC ?_)
 generalize hQ : PostS Tryz.prog Tryz.f37 _ _ _ _ = Q
 have h6 := H.n6
 unfold flV at hfl
 unfold ldL flQ at hQ
 cases hg : gS (netM x r) r r with
 | none =>
  rw [hg] at hfl hQ
  simp only at hfl hQ
  rw [show stableB ([] : List Rat) = true from rfl] at hQ
  simp (disch := omega) only [go_sem, ↓AH]
  refine Aj (hfl _) zK (.inr ⟨rfl, rfl⟩) ?_
  simp (disch := omega) only [go_sem, ↓AH]
  refine AM (fun (_ : Nat) st => st.fr 5 = .ref nx 0 0 0 ∧ st.fr 6 = .bool true ∧ st.fr 13 = .int .i64 0 ∧ st.fr 14 = .int .i64 0 ∧ st.h = upd h nx ⟨85, [], true, true, true⟩ ∧ st.nx = nx + 1) (fun i => i) 0 ⟨zV, zV, zV, zV, rfl, rfl⟩ ?_
  rintro i ⟨fr1, h1, nx1⟩ ⟨g5, g6, g13, g14, eh, enx⟩ J hJ
  simp only at g5 g6 g13 g14 eh enx
  subst eh enx
  simp (disch := omega) only [go_sem, ↓AH, g5, g6, g13, g14]
  rw [← hQ]
  exact FL (id := nx) (n := 0) (off := 0) (len := 0) (.inl rfl) rfl zV zV zU zU zU zO zO (by simp [AA, ratM]) E7 (fun i hi _ => by simp (disch := omega) only [AA, if_neg])
 | some w =>
  rw [hg] at hfl hQ
  simp only at hfl hQ
  obtain ⟨f, hf⟩ : ∃ f : Nat → Rat, (fun i => w i r / w i i) = f := ⟨_, rfl⟩
  rw [hf] at hfl
  have hfw : ∀ i, w i r / w i i = f i := fun i => by rw [← hf]
  simp only [hfw] at hQ
  obtain ⟨ld, hld⟩ : ∃ ld : Nat → Rat, ld = fun i => f i / srvF x i := ⟨_, rfl⟩
  rw [← hld] at hQ
  have hfl2 : (ratM (U + U) (mapF r f)).length = r := by rw [Aq, Ai]
  have hsl : (ratM 700 x.srv).length = r := by rw [Aq, H.srv]
  simp (disch := omega) only [go_sem, ↓AH]
  refine Aj (hfl _) zK (.inr ⟨rfl, rfl⟩) ?_
  simp (disch := omega) only [go_sem, ↓AH, hfl2, Ai]
  refine AM (fun (i : Nat) st => st.fr 0 = .ptr id 1 0 0 ∧ st.fr 4 = lS (U + U) (mapF r f) ∧ st.fr 5 = .ref nx i 0 i ∧ st.fr 6 = .bool (stableB (mapF i ld)) ∧ st.fr 13 = .int .i64 r ∧ st.fr 14 = .int .i64 i ∧ st.h nx = ⟨85, ratM L (mapF i ld), (i == 0), true, true⟩ ∧ (∀ k, k < nx → st.h k = h k) ∧ nx + 1 ≤ st.nx ∧ i ≤ r) (fun i => r - i) 0
   ⟨zV, zV, zV, by simp [AA, mapF, stableB], zV, zV, by simp [AA, mapF, ratM], fun k hk => by simp (disch := omega) only [AA, if_neg], zS, zO⟩ ?_
  rintro i ⟨fr1, h1, nx1⟩ ⟨g0, g4, g5, g6, g13, g14, hrow, hold, hnx, hi⟩ J hJ
  simp only at g0 g4 g5 g6 g13 g14 hrow hold hnx
  have hb1 : h1 id = ⟨41, [x.sv], true, false, true⟩ := by rw [hold id hid]; exact hb
  by_cases hin : i < r
  ·have key := hJ (i + 1)
   clear hJ
   obtain ⟨q, hq⟩ := AI (xs := x.srv) (i := i) (by rw [H.srv]; exact hin)
   have hqe : srvF x i = q := Ny hq
   have hqp : 0 < q := hqe ▸ H.srp hin
   have hqn := Rs hqp
   have hfi : (mapF r f)[i]? = some (f i) := A5 hin
   have hv : f i / q = ld i := by rw [hld, ← hqe]
   have hel : (ratM L (mapF i ld)).length = i := by rw [Aq, Ai]
   have hsn : ratM L (mapF i ld) ++ [rS L (ld i)] = ratM L (mapF (i + 1) ld) := by rw [DN, GS]
   have hO := HA (m := U + U) (n := 700) (a := f i) (b := q) zO hqn
   rw [hv, hM] at hO
   have hL := J0 (m := L) (n := 64) (a := ld i) (b := 1) zO
   have hz1 : (i + 1 == 0) = false := by simp
   have n1 : (nx = nx1) = False := by simp; omega
   have n2 : (nx1 = nx) = False := by simp; omega
   have n3 : (id = nx1) = False := by simp; omega
   have n4 : (nx1 = id) = False := by simp; omega
   rw [KH] at key
   cases hsb : stableB (mapF i ld) with
   | false =>
    rw [hsb] at g6 key
    simp only [Bool.false_and] at key
    simp (disch := omega) only [go_sem, ↓AH, g0, g4, g5, g6, g13, g14, hb1, hrow, hel, hfl2, hsl, hq, hfi, hO, hsn, n1, n2, n3, n4, reach, Ai]
    (repeat (with_reducible refine Or.inr ?_))
    exact key _ ⟨(by simp [AA, g0] <;> omega), (by simp [AA, g4] <;> omega), zV, zV, (by simp [AA, g13] <;> omega), zV, by simp (disch := omega) only [AA, ↓reduceIte, if_neg, if_pos, hz1], fun k hk => by simp (disch := omega) only [AA, if_neg, hold k hk], zT, hin⟩ zO
   | true =>
    rw [hsb] at g6 key
    simp only [Bool.true_and] at key
    simp (disch := omega) only [go_sem, ↓AH, g0, g4, g5, g6, g13, g14, hb1, hrow, hel, hfl2, hsl, hq, hfi, hO, hL, hsn, n1, n2, n3, n4, reach, Ai]
    (repeat (with_reducible refine Or.inr ?_))
    exact key _ ⟨(by simp [AA, g0] <;> omega), (by simp [AA, g4] <;> omega), zV, zV, (by simp [AA, g13] <;> omega), zV, by simp (disch := omega) only [AA, ↓reduceIte, if_neg, if_pos, hz1], fun k hk => by simp (disch := omega) only [AA, if_neg, hold k hk], zT, hin⟩ zO
  ·obtain rfl : i = r := by omega
   simp (disch := omega) only [go_sem, ↓AH, g0, g4, g5, g6, g13, g14]
   rw [← hQ]
   exact FL (id := nx) (n := i) (off := 0) (len := i) (.inl rfl) rfl zV zV (by simp only [hrow]) (by simp only [hrow]; rw [Aq, Ai]) (by simp only [hrow]) zO zO (by simp only [hrow, List.drop_zero]; exact List.take_of_length_le (by rw [Aq, Ai]; exact Nat.le_refl _)) E7 (fun i hi _ => by simp only; exact hold i hi)
theorem Mv {fr : Nat → AV} {h : Nat → Blk} {nx id r : Nat} {x : NR} (H : NOk x r) (hb : h id = ⟨41, [x.sv], true, false, true⟩) (hid : id < nx) :
 InOk Tryz.prog ⟨fr, h, nx⟩ 37 [.ptr id 1 0 0] (.tup [lS ldM (ldL x r), .bool (stableB (ldL x r))]) ⟨fr, h, nx⟩ := Ln H rfl zD (fun _ => Mt H hb hid) hb hid
theorem Em {P : Program} {fn : Func} {t u v : Tmp} {T id : Nat} {x y z : AV} {b : Bool} {st : St} {e : Ex} {h' : Nat → Blk} {nx : Nat} {eat : List Nat} (he : e = .ret ∨ e = .normal) (hr : fn.results.toList = [.cell t T, .tmp u, .tmp v]) (hok : okT P T = true) (hv : st.fr t = .ptr id 1 0 0) (hu : st.fr u = z) (hw : st.fr v = .bool b)
  (hlv : (st.h id).lv = true) (hx : (st.h id).xs = [x]) (hl : ldA P T x 0 = some y) (hp : y.pure = true) (hz : z.pure = true) (hh : ∀ i, i < nx → i ∉ eat → st.h i = h' i) :
  PostS P fn (.tup [y, z, .bool b]) h' nx eat e st :=
 ⟨by rcases he with rfl | rfl <;> trivial, ⟨.tup [y, z, .bool b], [], by rw [hr]; simp [resV, resL, resA, hv, hu, hw, hok, loadA, hlv, hx, hl], AL (by simp [AV.pure, AV.pureL, hp, hz]), zS⟩, hh⟩
def netV (m : Ntw) : Option NR := match netQ m with
 | some x => if endsB (lvL x.rts) (nzL x.rts) m.srv.length then some x else none
 | none => none
theorem N5 {m : Ntw} {x : NR} (h : netV m = some x) : NOk x m.srv.length := by
 unfold netV at h
 split at h
 ·rename_i y hy
  split at h
  ·cases h; exact UN hy
  ·cases h
 ·cases h
def stS (m : Ntw) : AV := match netV m with
 | some x => .tup [x.sv, lS ldM (ldL x m.srv.length), .bool (stableB (ldL x m.srv.length))]
 | none => .tup [.agg [.nil, .nil, .nil], .nil, .bool false]
theorem Wj {rs : List (List Rat)} : AV.pureL (rwS rs) = true := LW
theorem UY {x : NR} : x.sv.pure = true := by simp [AV.pure, AV.pureL, Wj]
theorem Wk (m : Ntw) : (∃ x, netV m = some x ∧ netS m = .tup [x.sv, .bool true]) ∨ (netV m = none ∧ ((∃ x : NR, netS m = .tup [x.sv, .bool false]) ∨ netS m = .tup [.agg [.nil, .nil, .nil], .bool false])) := by
 unfold netV netS
 cases netQ m with
 | none => exact .inr ⟨rfl, .inr rfl⟩
 | some x =>
  cases hE : endsB (lvL x.rts) (nzL x.rts) m.srv.length with
  | true => exact .inl ⟨x, by simp [hE], by simp [hE]⟩
  | false => exact .inr ⟨by simp [hE], .inl ⟨x, by simp only [hE]⟩⟩
set_option maxHeartbeats 4000000 in
theorem Lo {fr : Nat → AV} {h : Nat → Blk} {nx id : Nat} {m : Ntw} (hm0 : m.small) (hb : h id = ⟨28, [m.av], true, false, true⟩) (hid : id < nx) :
  InOk Tryz.prog ⟨fr, h, nx⟩ 24 [.ptr id 1 0 0] (stS m) ⟨fr, h, nx⟩ := by
 refine Ct (W := ⟨fun _ => false, fun _ => none⟩) AS Tryz.func24 rfl zK zL (AC ?_)
 generalize hQ : PostS Tryz.prog Tryz.f24 _ _ _ _ = Q
 have hq := fun (fr : Nat → AV) h nx hb hid => Mk (fr := fr) (h := h) (nx := nx) (id := id) (m := m) hm0 hb hid
 have n1 : (id = nx) = False := by simp; omega
 have n2 : (id = nx + 1) = False := by simp; omega
 have n3 : (nx = nx + 1) = False := by simp
 have n4 : (nx + 1 = nx) = False := by simp
 unfold stS at hQ
 rcases Wk m with ⟨x, hv, hs⟩ | ⟨hv, ⟨x, hs⟩ | hs⟩
 ·rw [hs] at hq
  simp only [hv] at hQ
  have H := N5 hv
  have hl := fun (fr : Nat → AV) h nx id hb hid => Mv (fr := fr) (h := h) (nx := nx) (id := id) H hb hid
  simp (disch := omega) only [go_sem, ↓AH]
  refine Aj (hq _ _ _ (by simp (disch := omega) only [AA, if_neg, hb]) zO) zK (.inr ⟨rfl, rfl⟩) ?_
  simp (disch := omega) only [go_sem, ↓AH, n1, n2, n3, n4]
  refine Aj (hl _ _ _ (nx + 1) (by simp (disch := omega) only [AA, ↓reduceIte, if_neg, if_pos]) zO) zK (.inr ⟨rfl, rfl⟩) ?_
  simp (disch := omega) only [go_sem, ↓AH, n1, n2, n3, n4]
  rw [← hQ]
  exact Em (id := nx) (x := x.sv) (.inl rfl) rfl EK zV zV zV zU zU Ce UY zP (fun i hi _ => by simp (disch := omega) only [AA, if_neg])
 ·rw [hs] at hq
  simp only [hv] at hQ
  simp (disch := omega) only [go_sem, ↓AH]
  refine Aj (hq _ _ _ (by simp (disch := omega) only [AA, if_neg, hb]) zO) zK (.inr ⟨rfl, rfl⟩) ?_
  simp (disch := omega) only [go_sem, ↓AH, n1, n2, n3, n4]
  rw [← hQ]
  exact Em (id := nx) (x := .agg [.nil, .nil, .nil]) (.inl rfl) rfl EK zV zV zV zU zU Ce rfl rfl (fun i hi _ => by simp (disch := omega) only [AA, if_neg])
 ·rw [hs] at hq
  simp only [hv] at hQ
  simp (disch := omega) only [go_sem, ↓AH]
  refine Aj (hq _ _ _ (by simp (disch := omega) only [AA, if_neg, hb]) zO) zK (.inr ⟨rfl, rfl⟩) ?_
  simp (disch := omega) only [go_sem, ↓AH, n1, n2, n3, n4]
  rw [← hQ]
  exact Em (id := nx) (x := .agg [.nil, .nil, .nil]) (.inl rfl) rfl EK zV zV zV zU zU Ce rfl rfl (fun i hi _ => by simp (disch := omega) only [AA, if_neg])
theorem UZ {x : NR} {n : Nat} : (ldL x n).length ≤ n := by
 unfold ldL
 split
 ·rw [Ai]; exact Nat.le_refl _
 ·exact Nat.zero_le _
def isStN (m : Ntw) : Bool := match netV m with
 | some x => stableB (ldL x m.srv.length)
 | none => false
theorem Mw {m : Ntw} (hs : m.small) : CallOk Tryz.prog 8 [m.av] (.bool (isStN m)) [] := by
 have hp : AV.pureL (rowsT m.rts) = true := BR
 have hq := fun (fr : Nat → AV) h nx hb hid => Lo (fr := fr) (h := h) (nx := nx) (id := 0) (m := m) hs hb hid
 unfold stS at hq
 unfold isStN
 cases hn : netV m with
 | none =>
  rw [hn] at hq
  (refine AB (W := fun _ => false) false AS Tryz.func8 rfl zK zL (AC ?_); generalize hQ : Post Tryz.prog Tryz.f8 _ _ _ _ _ = Q; simp only [stIn, matL, matA, st00])
  simp (disch := omega) only [go_sem]
  refine Aj (hq _ _ _ (by simp [AA]; rfl) zO) zK (.inr ⟨rfl, rfl⟩) ?_
  simp (disch := omega) only [go_sem]
  rw [← hQ]
  exact AG (.inl rfl) rfl zV rfl
 | some x =>
  rw [hn] at hq
  (refine AB (W := fun _ => false) false AS Tryz.func8 rfl zK zL (AC ?_); generalize hQ : Post Tryz.prog Tryz.f8 _ _ _ _ _ = Q; simp only [stIn, matL, matA, st00])
  simp (disch := omega) only [go_sem]
  refine Aj (hq _ _ _ (by simp [AA]; rfl) zO) zK (.inr ⟨rfl, rfl⟩) ?_
  simp (disch := omega) only [go_sem]
  rw [← hQ]
  exact AG (.inl rfl) rfl zV rfl
def bigI : List Rat → Nat → Int
 | [], _ => -1
 | q :: qs, k => if q < 1 then bigI qs (k + 1) else (k : Int)
theorem N6 : ∀ (qs : List Rat) (k : Nat), decide (0 ≤ bigI qs k) = !(stableB qs)
 | [], _ => by simp [bigI, stableB]
 | q :: qs, k => by
  have ih := N6 qs (k + 1)
  rw [bigI]
  by_cases h : q < 1
  ·rw [if_pos h, ih]; simp [stableB, h]
  ·rw [if_neg h]; simp [stableB, h]
theorem Ua {qs : List Rat} {i : Nat} {q : Rat} (h : qs[i]? = some q) : bigI (qs.drop i) i = if q < 1 then bigI (qs.drop (i + 1)) (i + 1) else (i : Int) := by
 obtain ⟨hi, rfl⟩ := List.getElem?_eq_some_iff.1 h
 rw [List.drop_eq_getElem_cons hi, bigI]
theorem JO {m : Nat} {a : Rat} (h : m + 64 ≤ 274877906944) : CW Tryz.prog 45 [rI m a] (.bool (!decide (a < 1))) := by
 refine cw zK zP zP ?_
 have hc := NY (m := m) (n := 64) (a := a) (b := 1) h
 have e : (!decide (a < 1)) = decide (0 ≤ cmpR a 1) := by
  rw [← decide_not]
  exact decide_eq_decide.2 ((not_congr (NX (a := a) (b := 1)).symm).trans zO)
 rw [e]
 generalize cmpR a 1 = c at *
 have hone : CW Tryz.prog 47 [.int .i64 1] (rI 64 1) := E8 (n := 1) zO zO
 (refine AB (W := fun _ => false) false AS Tryz.func45 rfl zK zL (AC ?_); generalize hQ : Post Tryz.prog Tryz.f45 _ _ _ _ _ = Q; simp only [stIn, matL, matA, st00])
 simp (disch := omega) only [go_sem, hc, hone]
 (repeat (with_reducible refine Or.inr ?_))
 rw [← hQ]
 exact AG (.inl rfl) rfl zU rfl
attribute [go_sem] JO
theorem IL {m : Nat} {qs : List Rat} (h : m + 64 ≤ 274877906944) (hl : qs.length ≤ 1000) : CW Tryz.prog 75 [lI m qs, .fn (.func 45) [] []] (.int .i64 (bigI qs 0)) := by
 refine cw zK zP zP ?_
 obtain ⟨L, hL⟩ : ∃ n, qs.length = n := ⟨_, rfl⟩
 rw [hL] at hl
 (refine AB (W := fun _ => false) false AS Tryz.func75 rfl zK zL (AC ?_); generalize hQ : Post Tryz.prog Tryz.f75 _ _ _ _ _ = Q; simp only [stIn, matL, matA, st00])
 simp (disch := omega) only [go_sem, hL]
 refine AM (fun (i : Nat) st => st.fr 0 = lI m qs ∧ st.fr 1 = .fn (.func 45) [] [] ∧ st.fr 7 = .int .i64 L ∧ st.fr 8 = .int .i64 i ∧ i ≤ L ∧ bigI (qs.drop i) i = bigI qs 0) (fun i => L - i) 0 ⟨zV, zV, zV, zV, zO, rfl⟩ ?_
 rintro i ⟨fr, h', nx⟩ ⟨g0, g1, g7, g8, hi, ha⟩ J hJ
 simp only at g0 g1 g7 g8
 by_cases hin : i < L
 ·obtain ⟨q, hq⟩ := AI (xs := qs) (i := i) zO
  have hat := Ua hq
  have hm := JO (m := m) (a := q) h
  simp only [rI] at hm
  simp (disch := omega) only [go_sem, g0, g1, g7, g8, hq]
  rw [Nh (g := 45) zU rfl]
  by_cases hneg : q < 1
  ·rw [if_pos hneg] at hat
   simp only [decide_eq_true hneg, Bool.not_true] at hm
   simp (disch := omega) only [go_sem, g0, g1, g7, g8, hm]
   (repeat (with_reducible refine Or.inr ?_))
   exact hJ (i + 1) _ ⟨(by simp [AA, g0] <;> omega), (by simp [AA, g1] <;> omega), (by simp [AA, g7] <;> omega), zV, hin, by rw [← hat, ha]⟩ zO
  ·rw [if_neg hneg] at hat
   simp only [decide_eq_false hneg, Bool.not_false] at hm
   rw [← ha, hat] at hQ
   simp (disch := omega) only [go_sem, g0, g1, g7, g8, hm]
   (repeat (with_reducible refine Or.inr ?_))
   rw [← hQ]
   exact AG (.inl rfl) rfl zV rfl
 ·obtain rfl : i = L := by omega
  rw [List.drop_eq_nil_of_le zO, bigI] at ha
  rw [← ha] at hQ
  simp (disch := omega) only [go_sem, g0, g1, g7, g8]
  rw [← hQ]
  exact AG (.inl rfl) rfl zV rfl
attribute [go_sem] IL
theorem Lp {m : Nat} {qs : List Rat} (h : m + 64 ≤ 274877906944) (hl : qs.length ≤ 1000) : CW Tryz.prog 44 [lI m qs, .fn (.func 45) [] []] (.bool (!(stableB qs))) := by
 refine cw zK zP zP ?_
 have h1 := IL (qs := qs) h hl
 have h2 := N6 qs 0
 generalize bigI qs 0 = z at *
 generalize stableB qs = p at *
 rw [← h2]
 (refine AB (W := fun _ => false) false AS Tryz.func44 rfl zK zL (AC ?_); generalize hQ : Post Tryz.prog Tryz.f44 _ _ _ _ _ = Q; simp only [stIn, matL, matA, st00])
 simp (disch := omega) only [go_sem, h1]
 (repeat (with_reducible refine Or.inr ?_))
 rw [← hQ]
 exact AG (.inl rfl) rfl zU rfl
def ldB : Nat := relB + 700
def ldI (x : NR) (n : Nat) : List Rat := match gI (netM x n) n n with | some u => mapF n (fun i => bk u n n i / srvF x i) | none => []
theorem Wm {x : NR} {n : Nat} : ldI x n = ldL x n := by
 have := UO (x := x) (n := n)
 unfold ldI ldL
 cases hI : gI (netM x n) n n with
 | none =>
  rw [hI] at this
  cases hF : flQ x n with
  | none => rfl
  | some f => rw [hF] at this; exact this.elim
 | some u =>
  rw [hI] at this
  cases hF : flQ x n with
  | none => rw [hF] at this; exact this.elim
  | some f => rw [hF] at this; exact Bi fun i hi => by rw [this i hi]
set_option maxHeartbeats 4000000 in
theorem Rt {fr : Nat → AV} {h : Nat → Blk} {nx id r M L : Nat} {x : NR} (H : NOk x r) (hM : M + 700 = L) (hM2 : L ≤ 100000000000) (hfl : ∀ (fr : Nat → AV) (h : Nat → Blk) (nx : Nat), h id = ⟨50, [x.iv], true, false, true⟩ → id < nx → InOk Tryz.prog ⟨fr, h, nx⟩ 34 [.ptr id 1 0 0] (flI M x r) ⟨fr, h, nx⟩)
  (hb : h id = ⟨50, [x.iv], true, false, true⟩) (hid : id < nx) : InOk Tryz.prog ⟨fr, h, nx⟩ 38 [.ptr id 1 0 0] (lI L (ldL x r)) ⟨fr, h, nx⟩ := by
 refine Ct (W := ⟨fun _ => false, fun _ => none⟩) AS Tryz.func38 rfl zK zL (AC ?_)
 generalize hQ : PostS Tryz.prog Tryz.f38 _ _ _ _ = Q
 have h6 := H.n6
 have n1 : (id = nx) = False := by simp; omega
 rw [← Wm] at hQ
 unfold ldI at hQ
 unfold flI at hfl
 have hb0 : (upd h nx ⟨76, [], true, true, true⟩) id = ⟨50, [x.iv], true, false, true⟩ := by rw [AA, if_neg zO]; exact hb
 cases hg : gI (netM x r) r r with
 | none =>
  rw [hg] at hfl hQ
  simp only at hfl hQ
  simp (disch := omega) only [go_sem, ↓AH]
  refine Aj (hfl _ _ _ hb0 zO) zK (.inr ⟨rfl, rfl⟩) ?_
  simp (disch := omega) only [go_sem, ↓AH]
  refine AM (fun (_ : Nat) st => st.fr 3 = .ref nx 0 0 0 ∧ st.fr 9 = .int .i64 0 ∧ st.fr 10 = .int .i64 0 ∧ st.h = upd h nx ⟨76, [], true, true, true⟩ ∧ st.nx = nx + 1) (fun i => i) 0 ⟨zV, zV, zV, rfl, rfl⟩ ?_
  rintro i ⟨fr1, h1, nx1⟩ ⟨g3, g9, g10, eh, enx⟩ J hJ
  simp only at g3 g9 g10 eh enx
  subst eh enx
  simp (disch := omega) only [go_sem, ↓AH, g3, g9, g10]
  rw [← hQ]
  exact B6 (id := nx) (n := 0) (off := 0) (len := 0) (.inl rfl) rfl zV zU zU zU zO zO (by simp [AA, ratL]) Cp (fun i hi _ => by simp (disch := omega) only [AA, if_neg])
 | some u =>
  rw [hg] at hfl hQ
  simp only at hfl hQ
  generalize bk u r r = f at *
  obtain ⟨ld, hld⟩ : ∃ ld : Nat → Rat, ld = fun i => f i / srvF x i := ⟨_, rfl⟩
  rw [← hld] at hQ
  have hfl2 : (ratL M (mapF r f)).length = r := by rw [Ab, Ai]
  have hsl : (ratL 700 x.srv).length = r := by rw [Ab, H.srv]
  simp (disch := omega) only [go_sem, ↓AH]
  refine Aj (hfl _ _ _ hb0 zO) zK (.inr ⟨rfl, rfl⟩) ?_
  simp (disch := omega) only [go_sem, ↓AH, hfl2, Ai]
  refine AM (fun (i : Nat) st => st.fr 0 = .ptr id 1 0 0 ∧ st.fr 3 = .ref nx i 0 i ∧ st.fr 8 = lI M (mapF r f) ∧ st.fr 9 = .int .i64 r ∧ st.fr 10 = .int .i64 i ∧ st.h nx = ⟨76, ratL L (mapF i ld), (i == 0), true, true⟩ ∧ (∀ k, k < nx → st.h k = h k) ∧ nx + 1 ≤ st.nx ∧ i ≤ r) (fun i => r - i) 0
   ⟨zV, zV, zV, zV, zV, by simp [AA, mapF, ratL], fun k hk => by simp (disch := omega) only [AA, if_neg], zS, zO⟩ ?_
  rintro i ⟨fr1, h1, nx1⟩ ⟨g0, g3, g8, g9, g10, hrow, hold, hnx, hi⟩ J hJ
  simp only at g0 g3 g8 g9 g10 hrow hold hnx
  have hb1 : h1 id = ⟨50, [x.iv], true, false, true⟩ := by rw [hold id hid]; exact hb
  by_cases hin : i < r
  ·have key := hJ (i + 1)
   clear hJ
   obtain ⟨q, hq⟩ := AI (xs := x.srv) (i := i) (by rw [H.srv]; exact hin)
   have hqe : srvF x i = q := Ny hq
   have hqn := Rs (hqe ▸ H.srp hin)
   have hfi : (mapF r f)[i]? = some (f i) := A5 hin
   have hv : f i / q = ld i := by rw [hld, ← hqe]
   have hel : (ratL L (mapF i ld)).length = i := by rw [Ab, Ai]
   have hsn : ratL L (mapF i ld) ++ [rI L (ld i)] = ratL L (mapF (i + 1) ld) := by rw [DN, GR]
   have hO := Ht (m := M) (n := 700) (a := f i) (b := q) zO hqn
   rw [hv, hM] at hO
   have hz1 : (i + 1 == 0) = false := by simp
   have m1 : (nx = nx1) = False := by simp; omega
   have m2 : (nx1 = nx) = False := by simp; omega
   have m3 : (id = nx1) = False := by simp; omega
   have m4 : (nx1 = id) = False := by simp; omega
   simp (disch := omega) only [go_sem, ↓AH, g0, g3, g8, g9, g10, hb1, hrow, hel, hfl2, hsl, hq, hfi, hO, hsn, m1, m2, m3, m4, reach, Ai]
   (repeat (with_reducible refine Or.inr ?_))
   exact key _ ⟨(by simp [AA, g0] <;> omega), zV, (by simp [AA, g8] <;> omega), (by simp [AA, g9] <;> omega), zV, by simp (disch := omega) only [AA, ↓reduceIte, if_neg, if_pos, hz1], fun k hk => by simp (disch := omega) only [AA, if_neg, hold k hk], zT, hin⟩ zO
  ·obtain rfl : i = r := by omega
   simp (disch := omega) only [go_sem, ↓AH, g0, g3, g8, g9, g10]
   rw [← hQ]
   exact B6 (id := nx) (n := i) (off := 0) (len := i) (.inl rfl) rfl zV (by simp only [hrow]) (by simp only [hrow]; rw [Ab, Ai]) (by simp only [hrow]) zO zO (by simp only [hrow, List.drop_zero]; exact List.take_of_length_le (by rw [Ab, Ai]; exact Nat.le_refl _)) Cp (fun i hi _ => by simp only; exact hold i hi)
theorem Ub {fr : Nat → AV} {h : Nat → Blk} {nx id r : Nat} {x : NR} (H : NOk x r) (hb : h id = ⟨50, [x.iv], true, false, true⟩) (hid : id < nx) :
 InOk Tryz.prog ⟨fr, h, nx⟩ 38 [.ptr id 1 0 0] (lI ldB (ldL x r)) ⟨fr, h, nx⟩ := Rt H rfl zD (fun _ _ _ h1 h2 => UX H h1 h2) hb hid
attribute [go_sem] Lp
theorem EN {P : Program} {fn : Func} {t u v : Tmp} {T id n0 : Nat} {x y z : AV} {b fl : Bool} {st : St} {e : Ex} (he : e = .ret ∨ e = .normal) (hr : fn.results.toList = [.cell t T, .tmp u, .tmp v]) (hok : okT P T = true) (hv : st.fr t = .ptr id 1 0 0) (hu : st.fr u = z) (hw : st.fr v = .bool b)
  (hlv : (st.h id).lv = true) (hx : (st.h id).xs = [x]) (hl : ldA P T x 0 = some y) (hp : y.pure = true) (hz : z.pure = true) : Post P fn n0 fl false (.tup [y, z, .bool b]) [] e st :=
 ⟨by rcases he with rfl | rfl <;> trivial, .tup [y, z, .bool b], by rw [hr]; simp [resV, resL, resA, hv, hu, hw, hok, loadA, hlv, hx, hl], [], by
  rw [if_neg zS]
  exact ⟨AL (by simp [AV.pure, AV.pureL, hp, hz]), zS⟩, .inl rfl⟩
theorem Uc {x : NR} : x.iv.pure = true := by simp [AV.pure, AV.pureL, F0]
def stI (m : Ntw) : AV := match netV m with
 | some x => if stableB (ldL x m.srv.length) = true then .tup [x.iv, lI ldB (ldL x m.srv.length), .bool true] else .tup [.agg [.nil, .nil, .nil], .nil, .bool false]
 | none => .tup [.agg [.nil, .nil, .nil], .nil, .bool false]
theorem Wn (m : Ntw) : (∃ x, netV m = some x ∧ netI m = .tup [x.iv, .bool true]) ∨ (netV m = none ∧ ((∃ x : NR, netI m = .tup [x.iv, .bool false]) ∨ netI m = .tup [.agg [.nil, .nil, .nil], .bool false])) := by
 unfold netV netI
 cases netQ m with
 | none => exact .inr ⟨rfl, .inr rfl⟩
 | some x =>
  cases hE : endsB (lvL x.rts) (nzL x.rts) m.srv.length with
  | true => exact .inl ⟨x, by simp [hE], by simp [hE]⟩
  | false => exact .inr ⟨by simp [hE], .inl ⟨x, by simp only [hE]⟩⟩
theorem Ru {m : Ntw} (hs : m.small) : CallOk Tryz.prog 27 [m.av] (stI m) [] := by
 have hw := Gw hs
 unfold stI
 rcases Wn m with ⟨x, hv, hI⟩ | ⟨hv, ⟨x, hI⟩ | hI⟩
 ·rw [hI] at hw
  simp only [hv]
  have H := N5 hv
  have h6 := H.n6
  have hl := fun (fr : Nat → AV) h nx id hb hid => Ub (fr := fr) (h := h) (nx := nx) (id := id) H hb hid
  have hlen := UZ (x := x) (n := m.srv.length)
  have hB := Lp (m := ldB) (qs := ldL x m.srv.length) zD zO
  generalize ldL x m.srv.length = ls at *
  generalize ldB = B at *
  by_cases hst : stableB ls = true
  ·rw [hst] at hB
   simp only [if_pos hst]
   (refine AB (W := fun _ => false) false AS Tryz.func27 rfl zK zL (AC ?_); generalize hQ : Post Tryz.prog Tryz.f27 _ _ _ _ _ = Q; simp only [stIn, matL, matA, st00])
   simp (disch := omega) only [go_sem, hw]
   (repeat (with_reducible refine Or.inr ?_))
   refine Aj (hl _ _ _ 2 zU zO) zK (.inr ⟨rfl, rfl⟩) ?_
   simp (disch := omega) only [go_sem, hB]
   (repeat (with_reducible refine Or.inr ?_))
   rw [← hQ]
   exact EN (id := 1) (x := x.iv) (.inl rfl) rfl EQ zV zV zV zU zU C6 Uc zP
  ·rw [(Bool.not_eq_true _).mp hst] at hB
   simp only [if_neg hst]
   (refine AB (W := fun _ => false) false AS Tryz.func27 rfl zK zL (AC ?_); generalize hQ : Post Tryz.prog Tryz.f27 _ _ _ _ _ = Q; simp only [stIn, matL, matA, st00])
   simp (disch := omega) only [go_sem, hw]
   (repeat (with_reducible refine Or.inr ?_))
   refine Aj (hl _ _ _ 2 zU zO) zK (.inr ⟨rfl, rfl⟩) ?_
   simp (disch := omega) only [go_sem, hB]
   (repeat (with_reducible refine Or.inr ?_))
   rw [← hQ]
   exact EN (id := 1) (x := .agg [.nil, .nil, .nil]) (.inl rfl) rfl EQ zV zV zV zU zU C6 rfl rfl
 ·rw [hI] at hw
  simp only [hv]
  (refine AB (W := fun _ => false) false AS Tryz.func27 rfl zK zL (AC ?_); generalize hQ : Post Tryz.prog Tryz.f27 _ _ _ _ _ = Q; simp only [stIn, matL, matA, st00])
  simp (disch := omega) only [go_sem, hw]
  (repeat (with_reducible refine Or.inr ?_))
  rw [← hQ]
  exact EN (id := 1) (x := .agg [.nil, .nil, .nil]) (.inl rfl) rfl EQ zV zV zV zU zU C6 rfl rfl
 ·rw [hI] at hw
  simp only [hv]
  (refine AB (W := fun _ => false) false AS Tryz.func27 rfl zK zL (AC ?_); generalize hQ : Post Tryz.prog Tryz.f27 _ _ _ _ _ = Q; simp only [stIn, matL, matA, st00])
  simp (disch := omega) only [go_sem, hw]
  (repeat (with_reducible refine Or.inr ?_))
  rw [← hQ]
  exact EN (id := 1) (x := .agg [.nil, .nil, .nil]) (.inl rfl) rfl EQ zV zV zV zU zU C6 rfl rfl
theorem Rv {m : Ntw} : (stI m).pure = true := by
 unfold stI
 cases netV m with
 | none => rfl
 | some x =>
  simp only
  split
  ·simp [AV.pure, AV.pureL, F0]
  ·rfl
theorem Lq {m : Ntw} (hs : m.small) : CW Tryz.prog 27 [m.av] (stI m) := cw zK (by simp [AV.pure, AV.pureL, AU, BR]) Rv (Ru hs)
theorem My {m : Ntw} (hs : m.small) : CallOk Tryz.prog 10 [m.av] (.bool (isStN m)) [] := by
 have hw := Lq hs
 unfold stI at hw
 unfold isStN
 cases hn : netV m with
 | none =>
  rw [hn] at hw
  (refine AB (W := fun _ => false) false AS Tryz.func10 rfl zK zL (AC ?_); generalize hQ : Post Tryz.prog Tryz.f10 _ _ _ _ _ = Q; simp only [stIn, matL, matA, st00])
  simp (disch := omega) only [go_sem, hw]
  (repeat (with_reducible refine Or.inr ?_))
  rw [← hQ]
  exact AG (.inl rfl) rfl zV rfl
 | some x =>
  rw [hn] at hw
  simp only at hw ⊢
  by_cases hst : stableB (ldL x m.srv.length) = true
  ·rw [if_pos hst] at hw
   rw [hst]
   (refine AB (W := fun _ => false) false AS Tryz.func10 rfl zK zL (AC ?_); generalize hQ : Post Tryz.prog Tryz.f10 _ _ _ _ _ = Q; simp only [stIn, matL, matA, st00])
   simp (disch := omega) only [go_sem, hw]
   (repeat (with_reducible refine Or.inr ?_))
   rw [← hQ]
   exact AG (.inl rfl) rfl zV rfl
  ·rw [if_neg hst] at hw
   rw [(Bool.not_eq_true _).mp hst]
   (refine AB (W := fun _ => false) false AS Tryz.func10 rfl zK zL (AC ?_); generalize hQ : Post Tryz.prog Tryz.f10 _ _ _ _ _ = Q; simp only [stIn, matL, matA, st00])
   simp (disch := omega) only [go_sem, hw]
   (repeat (with_reducible refine Or.inr ?_))
   rw [← hQ]
   exact AG (.inl rfl) rfl zV rfl
attribute [go_sem] Lq
end Go.Proofs.YthiddlfddncbmaaGreatDoor
