/- A part of the proof that stands in YthmdjijacoafeaaGreatDoorMA3. -/
import Derived.Test.YthmdjijacoafeaaGreatDoorM12

set_option linter.unusedVariables false
set_option linter.unusedSimpArgs false
set_option maxRecDepth 100000
namespace Go.Proofs.YthmdjijacoafeaaGreatDoor
open Go

section
variable {P : Program} {W : FuncId → Bool} {d : Option Tmp} {ops : Array Oper} {os : List Oper} {fr : Nat → AV} {h : Nat → Blk} {nx : Nat} {K : St → Prop} {t : TokC ⟨d, ops, os, fr, h, nx, K⟩} {g : FuncId} {al : List AV}
theorem CallOk.inOkT {sargs : List AV} {T : Nat} {xs sp : List AV} {ex b : Bool} (hc : CallOk P g sargs (.tup [.own T xs sp ex, .bool b]) []) (hp : AV.pureL sargs = true) (hr : AV.pureL xs = true) (hs : AV.pureL sp = true) :
    InOk P ⟨fr, h, nx⟩ g sargs (.tup [.ref nx (xs.length + sp.length) 0 xs.length, .bool b]) ⟨fr, upd h nx ⟨T, xs ++ sp, ex, true, true⟩, nx + 1⟩ := by
  have he : eatH (outH h [] []) [] = h := by funext i; simp [eatH, outH]
  have : CallStep P ⟨fr, h, nx⟩ g sargs (.tup [.ref nx (xs.length + sp.length) 0 xs.length, .bool b]) ⟨fr, upd h nx ⟨T, xs ++ sp, ex, true, true⟩, nx + 1⟩ :=
    ⟨sargs.map fun _ => .snap, sargs, [], [], [], .tup [.own T xs sp ex, .bool b], [], passL_pure hp, hc, by simp, by simp, .inl rfl, .inl rfl, by
    simp only [matA, matL, matL_pure _ _ _ hr, matL_pure _ _ _ hs, he, St.new]⟩
  exact this.inOk
theorem callW_X {sargs : List AV} {ids : List Nat} {r x : AV} {st' : St} (hc : CallOk P g sargs r []) (hg : callable P g = true) (hs : snapL (snapA ⟨fr, h, nx⟩ 8) al = some (sargs, ids)) (ht : r.solid = true) (hm : matA true r ⟨fr, h, nx⟩ = (x, st')) (hW : W g = true)
    (hk : wpos P W ops os (st'.put d x) K) : callW P W g al ⟨d, ops, os, fr, h, nx, K⟩ t := by
  have he : eatH (outH h [] []) [] = h := by funext i; simp [eatH, outH]
  refine callW_of (pm := al.map fun _ => .snap) (outs := []) hc hg (passL_snap' hs) ?_ (by simp) (by simp) (.inr ⟨ht, rfl⟩) (.inl rfl) ?_ ?_
  · intro hw; rw [hW] at hw; cases hw
  · intro hw; rw [hW] at hw; cases hw
  · rw [he, hm]; exact hk
end
abbrev CWT (P : Program) (g : FuncId) (al : List AV) (T : Nat) (xs sp : List AV) (ex b : Bool) : Prop :=
  ∀ (W : FuncId → Bool) (d : Option Tmp) (ops : Array Oper) (os : List Oper) (fr : Nat → AV) (h : Nat → Blk) (nx : Nat) (K : St → Prop) (t : TokC ⟨d, ops, os, fr, h, nx, K⟩), W g = true →
    callW P W g al ⟨d, ops, os, fr, h, nx, K⟩ t = (Hid (callW P W g al ⟨d, ops, os, fr, h, nx, K⟩ .mk) .mk ∨ wpos P W ops os (St.put ⟨fr, upd h nx ⟨T, xs ++ sp, ex, true, true⟩, nx + 1⟩ d (.tup [.ref nx (xs.length + sp.length) 0 xs.length, .bool b])) K)
theorem cwt {P : Program} {g : FuncId} {al : List AV} {T : Nat} {xs sp : List AV} {ex b : Bool} (hg : callable P g = true) (hp : AV.pureL al = true) (hr : AV.pureL xs = true) (hs : AV.pureL sp = true) (hc : CallOk P g al (.tup [.own T xs sp ex, .bool b]) []) : CWT P g al T xs sp ex b := by
  intro W d ops os fr h nx K t hW
  cases t
  exact orHid fun hk => ⟨hg, _, _, hc.inOkT hp hr hs, fun hw => (by rw [hW] at hw; cases hw), fun hw => (by rw [hW] at hw; cases hw), hk⟩
theorem cwtW {P : Program} {g : FuncId} {al : List AV} {T : Nat} {xs sp : List AV} {ex b : Bool} {W : FuncId → Bool} (hW : W g = true) (h : CWT P g al T xs sp ex b) (d : Option Tmp) (ops : Array Oper) (os : List Oper) (fr : Nat → AV) (h0 : Nat → Blk) (nx : Nat) (K : St → Prop) (t : TokC ⟨d, ops, os, fr, h0, nx, K⟩) :
    callW P W g al ⟨d, ops, os, fr, h0, nx, K⟩ t = (Hid (callW P W g al ⟨d, ops, os, fr, h0, nx, K⟩ .mk) .mk ∨ wpos P W ops os (St.put ⟨fr, upd h0 nx ⟨T, xs ++ sp, ex, true, true⟩, nx + 1⟩ d (.tup [.ref nx (xs.length + sp.length) 0 xs.length, .bool b])) K) := h W d ops os fr h0 nx K t hW
theorem matA_ownB {T : Nat} {xs sp : List AV} {ex b : Bool} {fr : Nat → AV} {h : Nat → Blk} {nx : Nat} (hr : AV.pureL xs = true) (hs : AV.pureL sp = true) :
    matA true (.tup [.own T xs sp ex, .bool b]) ⟨fr, h, nx⟩ = (.tup [.ref nx (xs.length + sp.length) 0 xs.length, .bool b], ⟨fr, upd h nx ⟨T, xs ++ sp, ex, true, true⟩, nx + 1⟩) := by
  simp only [matA, matL, matL_pure _ _ _ hr, matL_pure _ _ _ hs, St.new]
theorem t_bools : elT Tryz.prog 25 = some 4 := by kernel_rfl
theorem o_bools : okT Tryz.prog 25 = true := by kernel_rfl
theorem i_bool : (Tryz.prog.info? 4).isSome = true := by kernel_rfl
theorem b_bool : byT Tryz.prog 4 = 1 := by kernel_rfl
theorem z_bool : zeroA Tryz.prog 4 = some (.bool false) := by kernel_rfl
theorem zk_bool : zokT Tryz.prog 4 = true := by kernel_rfl
theorem w_bool : u32T Tryz.prog 4 = false := by kernel_rfl
theorem el_bool {b : Bool} : AV.el Tryz.prog 4 (.bool b) = true := by simp [AV.el, s_bool, AV.cells, AV.one]
attribute [go_sem] t_bools o_bools i_bool b_bool z_bool zk_bool w_bool el_bool
def boolA (bs : List Bool) : List AV := bs.map .bool
theorem boolA_len {bs : List Bool} : (boolA bs).length = bs.length := by simp [boolA]
theorem boolA_at {bs : List Bool} {i : Nat} : (boolA bs)[i]? = (bs[i]?).map AV.bool := by simp [boolA]
@[simp] theorem boolA_pure (bs : List Bool) : AV.pureL (boolA bs) = true := by induction bs <;> simp_all [boolA, AV.pureL, AV.pure]
theorem boolA_snoc {bs : List Bool} {b : Bool} : boolA bs ++ [.bool b] = boolA (bs ++ [b]) := by simp [boolA]
theorem boolA_put {bs : List Bool} {i : Nat} {b : Bool} : (boolA bs).set i (.bool b) = boolA (bs.set i b) := by simp [boolA, List.map_set]
theorem boolA_take {bs : List Bool} {n : Nat} : (boolA bs).take n = boolA (bs.take n) := by simp [boolA, List.map_take]
theorem snap_bools {st : St} {id n : Nat} {bs : List Bool} {ex gr : Bool} {more : List AV} (h : st.h id = ⟨4, boolA bs, ex, gr, true⟩) (hn : bs.length = n) (hp : AV.pureL more = true) : snapL (snapA st 8) (.ref id n 0 n :: more) = some (.sl 4 (boolA bs) [] false :: more, [id]) := by
  have h1 : snapA st 8 (.ref id n 0 n) = some (.sl 4 (boolA bs) [] false, [id]) := snap_frozen (d := 7) (by rw [h]) (by rw [h, boolA_len, hn]) (by rw [h]) (by omega) (by rw [h, List.drop_zero]; exact List.take_of_length_le (by rw [boolA_len]; omega)) (boolA_pure _)
  simp [snapL, h1, snapL_pure hp]
theorem postB_own {P : Program} {fn : Func} {n0 : Nat} {fl : Bool} {t u : Tmp} {id n len T : Nat} {r sp : List AV} {ex b : Bool} {st : St} {e : Ex} (he : e = .ret ∨ e = .normal) (hr : fn.results.toList = [.tmp t, .tmp u]) (hv : st.fr t = .ref id n 0 len) (hw : st.fr u = .bool b)
    (hlv : (st.h id).lv = true) (hn : (st.h id).xs.length = n) (hg : (st.h id).gr = true) (ht : (st.h id).t = T) (hl : len ≤ n) (hxs : (st.h id).xs.take len = r) (hsp : (if (st.h id).ex = true then (st.h id).xs.drop len else []) = sp) (hex : (st.h id).ex = ex) (hp : AV.pureL r = true) (hq : AV.pureL sp = true) :
    Post P fn n0 fl true (.tup [.own T r sp ex, .bool b]) [] e st := by
  refine ⟨by rcases he with rfl | rfl <;> trivial, .tup [.ref id n 0 len, .bool b], by rw [hr]; simp [resV, resL, resA, hv, hw], [id], ?_, .inl rfl⟩
  simp only [if_true]
  refine ⟨?_, by simp⟩
  have key : ownA st 7 (.ref id n 0 len) = some (.own T r sp ex, [id]) := by
    rw [ownA_ref, if_pos ⟨hlv, hn, rfl, hl, hg⟩, hxs, snapLo_pure hp, ht]
    rw [hex] at hsp
    simp only [hex, Option.bind_some]
    cases ex with
    | true => simp only [if_true] at hsp ⊢; rw [hsp, snapLo_pure hq]; simp
    | false => simp only [Bool.false_eq_true, if_false] at hsp ⊢; rw [← hsp]; simp
  have : ownA st (7 + 1) (.tup [.ref id n 0 len, .bool b]) = some (.tup [.own T r sp ex, .bool b], [id]) := by
    rw [ownA]
    have hb : ownA st 7 (.bool b) = some (.bool b, []) := ownA_pure rfl
    simp [AV.pure, AV.pureL, snapL, key, hb]
  exact this
theorem postB_two {P : Program} {fn : Func} {n0 : Nat} {fl : Bool} {t u : Tmp} {v w : AV} {st : St} {e : Ex} (he : e = .ret ∨ e = .normal) (hr : fn.results.toList = [.tmp t, .tmp u]) (hv : st.fr t = v) (hw : st.fr u = w) (hp : v.pure = true) (hq : w.pure = true) :
    Post P fn n0 fl true (.tup [v, w]) [] e st := by
  refine ⟨by rcases he with rfl | rfl <;> trivial, .tup [v, w], by rw [hr]; simp [resV, resL, resA, hv, hw], [], ?_, .inl rfl⟩
  simp only [if_true]
  exact ⟨ownA_pure (by simp [AV.pure, AV.pureL, hp, hq]), by simp⟩
def mB (k : Nat) : Bool := decide (k % 3 = 0)
def marksB (k n : Nat) : List Bool := (List.range n).map fun i => mB (k + i)
theorem marksB_len (k n : Nat) : (marksB k n).length = n := by simp [marksB]
theorem marksB_succ {k n : Nat} : marksB k (n + 1) = marksB k n ++ [mB (k + n)] := by simp [marksB, List.range_succ]
theorem marksB_at {k n i : Nat} (h : i < n) : (marksB k n)[i]? = some (mB (k + i)) := by simp [marksB, h]
theorem mB_eq {k : Nat} : ((((k % 3 : Nat) : Int)) == 0) = mB k := by
  unfold mB
  by_cases h : k % 3 = 0
  · rw [h, decide_eq_true rfl]; rfl
  · rw [decide_eq_false h]; simp; omega
theorem l_eqB {bs : List Bool} (hl : bs.length ≤ 1000) : CallOk Tryz.prog 8 [.sl 4 (boolA bs) [] false, .sl 4 (boolA bs) [] false] (.bool true) [] := by
  obtain ⟨n, hn⟩ : ∃ n, bs.length = n := ⟨_, rfl⟩
  rw [hn] at hl
  (refine callOk_of_wpc (W := fun _ => false) false hm' Tryz.func8 rfl (by kernel_rfl) (Nat.le_of_ble_eq_true rfl) (go_start ?_); generalize hQ : Post Tryz.prog Tryz.f8 _ _ _ _ _ = Q; simp only [stIn, matL, matA, st00])
  simp (disch := omega) only [go_sem, ↓k_cond, ↓x_idx, ↓k_block, Nat.reduceEqDiff, Nat.reduceBEq, ↓reduceIte, reduceCtorEq, boolA_len, hn]
  refine k_loop (fun (i : Nat) st => st.fr 0 = .sl 4 (boolA bs) [] false ∧ st.fr 1 = .sl 4 (boolA bs) [] false ∧ st.fr 5 = .int .i64 i ∧ i ≤ n) (fun i => n - i) 0 ⟨(by simp [upd_app] <;> omega), (by simp [upd_app] <;> omega), (by simp [upd_app] <;> omega), by omega⟩ ?_
  rintro i ⟨fr, h, nx⟩ ⟨g0, g1, g5, hi⟩ J hJ
  simp only at g0 g1 g5
  by_cases hin : i < n
  · obtain ⟨x, hx⟩ := get_some (xs := bs) (i := i) (by omega)
    have e : (x == x) = true := by simp
    simp (disch := omega) only [go_sem, ↓k_cond, ↓x_idx, ↓k_block, Nat.reduceEqDiff, Nat.reduceBEq, ↓reduceIte, reduceCtorEq, g0, g1, g5, boolA_len, boolA_at, hx, hn, e]
    exact hJ (i + 1) _ ⟨(by simp [upd_app, g0] <;> omega), (by simp [upd_app, g1] <;> omega), (by simp [upd_app] <;> omega), hin⟩ (by omega)
  · simp (disch := omega) only [go_sem, ↓k_cond, ↓x_idx, ↓k_block, Nat.reduceEqDiff, Nat.reduceBEq, ↓reduceIte, reduceCtorEq, g0, g1, g5, boolA_len, hn]
    rw [← hQ]
    exact post_one (.inl rfl) rfl (by simp [upd_app] <;> omega) rfl
theorem markB_set {k i : Nat} {xs : List Bool} (hi : i < xs.length) : (marksB k i ++ xs.drop i).set i (mB (k + i)) = marksB k (i + 1) ++ xs.drop (i + 1) := by
  have hl := marksB_len k i
  rw [List.set_append_right _ _ (by omega), hl, Nat.sub_self, List.drop_eq_getElem_cons hi, List.set_cons_zero, marksB_succ]
  simp
theorem i_markB {fr : Nat → AV} {h : Nat → Blk} {nx id n k : Nat} {xs : List Bool} {ex gr : Bool} (hb : h id = ⟨4, boolA xs, ex, gr, true⟩) (hn : xs.length = n) (hk : k + n < 4611686018427387904) :
    InOk Tryz.prog ⟨fr, h, nx⟩ 9 [.ref id n 0 n, .int .i64 k] (.int .i64 ((k + n : Nat) : Int)) ⟨fr, upd h id ⟨4, boolA (marksB k n), ex, gr, true⟩, nx⟩ := by
  refine inOk_of_wpc (W := fun _ => false) hm' Tryz.func9 rfl (by kernel_rfl) (Nat.le_of_ble_eq_true rfl) (go_start ?_)
  generalize hQ : PostIn Tryz.prog Tryz.f9 _ _ _ = Q
  have hal : (boolA xs).length = n := by rw [boolA_len, hn]
  simp (disch := omega) only [go_sem, ↓k_cond, ↓x_idx, ↓k_block, Nat.reduceEqDiff, Nat.reduceBEq, ↓reduceIte, reduceCtorEq, hb, hal]
  refine k_loop (fun (i : Nat) st => st.fr 0 = .ref id n 0 n ∧ st.fr 1 = .int .i64 ((k + i : Nat) : Int) ∧ st.fr 5 = .int .i64 i ∧ st.h = upd h id ⟨4, boolA (marksB k i ++ xs.drop i), ex, gr, true⟩ ∧ st.nx = nx ∧ i ≤ n) (fun i => n - i) 0
    ⟨(by simp [upd_app] <;> omega), (by simp [upd_app] <;> omega), (by simp [upd_app] <;> omega), by funext j; simp only [upd_app]; split <;> simp_all [marksB], rfl, by omega⟩ ?_
  rintro i ⟨fr1, h1, nx1⟩ ⟨g0, g1, g5, eh, enx, hi⟩ J hJ
  simp only at g0 g1 g5 eh enx
  subst eh enx
  have hal2 : (boolA (marksB k i ++ xs.drop i)).length = n := by rw [boolA_len, ← hn]; simp [marksB_len]; omega
  by_cases hin : i < n
  · have hat : (marksB k i ++ xs.drop i)[i]? = some (xs[i]'(by omega)) := by
      rw [List.getElem?_append_right (by rw [marksB_len]; omega), marksB_len, Nat.sub_self, List.drop_eq_getElem_cons (by omega)]; rfl
    have hupd : ∀ z w : Blk, upd (upd h id z) id w = upd h id w := by intro z w; funext j; simp only [upd_app]; split <;> rfl
    have hset := markB_set (k := k) (i := i) (xs := xs) (by omega)
    have hmb := mB_eq (k := k + i)
    simp (disch := omega) only [go_sem, ↓k_cond, ↓x_idx, ↓k_block, Nat.reduceEqDiff, Nat.reduceBEq, ↓reduceIte, reduceCtorEq, g0, g1, g5, hal2, boolA_at, hat, hupd, hmb, boolA_put, hset]
    (repeat (with_reducible refine Or.inr ?_))
    exact hJ (i + 1) _ ⟨(by simp [upd_app, g0] <;> omega), by simp [upd_app]; omega, (by simp [upd_app] <;> omega), rfl, rfl, hin⟩ (by omega)
  · obtain rfl : i = n := by omega
    simp (disch := omega) only [go_sem, ↓k_cond, ↓x_idx, ↓k_block, Nat.reduceEqDiff, Nat.reduceBEq, ↓reduceIte, reduceCtorEq, g0, g1, g5, hal2]
    rw [← hQ]
    exact postIn_one (.inl rfl) rfl (by simp [upd_app] <;> omega) (by rw [List.drop_eq_nil_of_le (by omega), List.append_nil]) rfl
theorem l_heldB {n k : Nat} (hk : k + n < 4611686018427387904) : CallOk Tryz.prog 10 [.sl 4 (boolA (marksB k n)) [] false, .int .i64 k] (.int .i64 ((k + n : Nat) : Int)) [] := by
  have hml := marksB_len k n
  (refine callOk_of_wpc (W := fun _ => false) false hm' Tryz.func10 rfl (by kernel_rfl) (Nat.le_of_ble_eq_true rfl) (go_start ?_); generalize hQ : Post Tryz.prog Tryz.f10 _ _ _ _ _ = Q; simp only [stIn, matL, matA, st00])
  simp (disch := omega) only [go_sem, ↓k_cond, ↓x_idx, ↓k_block, Nat.reduceEqDiff, Nat.reduceBEq, ↓reduceIte, reduceCtorEq, boolA_len, hml]
  refine k_loop (fun (i : Nat) st => st.fr 0 = .sl 4 (boolA (marksB k n)) [] false ∧ st.fr 1 = .int .i64 ((k + i : Nat) : Int) ∧ st.fr 5 = .int .i64 i ∧ i ≤ n) (fun i => n - i) 0 ⟨(by simp [upd_app] <;> omega), (by simp [upd_app] <;> omega), (by simp [upd_app] <;> omega), by omega⟩ ?_
  rintro i ⟨fr, h, nx⟩ ⟨g0, g1, g5, hi⟩ J hJ
  simp only at g0 g1 g5
  by_cases hin : i < n
  · have hat := marksB_at (k := k) hin
    have hmb := mB_eq (k := k + i)
    generalize mB (k + i) = b at hat hmb
    have e : (b == b) = true := by simp
    simp (disch := omega) only [go_sem, ↓k_cond, ↓x_idx, ↓k_block, Nat.reduceEqDiff, Nat.reduceBEq, ↓reduceIte, reduceCtorEq, g0, g1, g5, boolA_len, hml, boolA_at, hat, hmb, e]
    (repeat (with_reducible refine Or.inr ?_))
    exact hJ (i + 1) _ ⟨(by simp [upd_app, g0] <;> omega), by simp [upd_app]; omega, (by simp [upd_app] <;> omega), hin⟩ (by omega)
  · obtain rfl : i = n := by omega
    simp (disch := omega) only [go_sem, ↓k_cond, ↓x_idx, ↓k_block, Nat.reduceEqDiff, Nat.reduceBEq, ↓reduceIte, reduceCtorEq, g0, g1, g5, boolA_len, hml]
    rw [← hQ]
    exact post_one (.inl rfl) rfl (by simp [upd_app] <;> omega) rfl
def actB (room limit : Nat) : List Bool := (List.range room).map fun n => decide (n < limit)
theorem actB_len {r l : Nat} : (actB r l).length = r := by simp [actB]
theorem actB_succ {r l : Nat} : actB (r + 1) l = actB r l ++ [decide (r < l)] := by simp [actB, List.range_succ]
theorem actB_set {r l : Nat} : (actB r l).set l true = actB r (l + 1) := by
  apply List.ext_getElem
  · simp [actB]
  · intro i h1 h2
    simp only [actB, List.getElem_set, List.getElem_map, List.getElem_range]
    by_cases e : l = i
    · subst e; simp
    · rw [if_neg e]; exact decide_eq_decide.2 (by omega)
theorem actB_zero {r : Nat} : actB r 0 = List.replicate r false := by
  apply List.ext_getElem
  · simp [actB]
  · intro i h1 h2; simp [actB]
def actT (m : Mdl) (l : Int) : Option (List Bool) :=
  match modR m with
  | some x => if 0 ≤ l ∧ l ≤ m.room then some (actB x.room l.toNat) else none
  | none => none
def optB (ex : Bool) : Option (List Bool) → AV
  | some bs => .tup [.own 4 (boolA bs) [] ex, .bool true]
  | none => .tup [.nil, .bool false]
theorem boolA_solid : ∀ bs : List Bool, AV.solidL (boolA bs) = true
  | [] => rfl
  | b :: bs => by rw [boolA, List.map_cons, AV.solidL]; simpa [AV.solid, boolA] using boolA_solid bs
theorem optB_solid (ex : Bool) (o : Option (List Bool)) : (optB ex o).solid = true := by
  cases o with
  | none => rfl
  | some bs => simp [optB, AV.solid, AV.solidL, boolA_solid]
theorem actT_len {m : Mdl} {l : Int} {bs : List Bool} (h : actT m l = some bs) : bs.length ≤ 8 := by
  unfold actT at h
  cases hx : modR m with
  | none => rw [hx] at h; cases h
  | some x =>
    rw [hx] at h
    simp only at h
    split at h
    · cases h
      obtain ⟨_, _, _, _, _, h6, _⟩ := modR_fits hx
      rw [actB_len]; exact h6
    · cases h
theorem i_l09Limit {fr : Nat → AV} {h : Nat → Blk} {nx id l : Nat} {x : MR} (hb : h id = ⟨37, [x.sv], true, false, true⟩) (hid : id < nx) (h1 : 1 ≤ x.room) (h8 : x.room ≤ 8) (hl : l ≤ 8) :
    InOk Tryz.prog ⟨fr, h, nx⟩ 13 [.ptr id 1 0 0, .int .i64 l] (.ref nx x.room 0 x.room) ⟨fr, upd h nx ⟨4, boolA (actB x.room l), false, true, true⟩, nx + 1⟩ := by
  refine inOk_of_wpc (W := fun _ => false) hm' Tryz.func13 rfl (by kernel_rfl) (Nat.le_of_ble_eq_true rfl) (go_start ?_)
  generalize hQ : PostIn Tryz.prog Tryz.f13 _ _ _ = Q
  have n1 : (id = nx) = False := by simp; omega
  have n2 : (nx = id) = False := by simp; omega
  have hupd : ∀ z w : Blk, upd (upd h nx z) nx w = upd h nx w := by intro z w; funext j; simp only [upd_app]; split <;> rfl
  obtain ⟨r, hr⟩ : ∃ r, x.room = r := ⟨_, rfl⟩
  rw [hr] at h1 h8 hQ
  simp (disch := omega) only [go_sem, ↓k_cond, ↓x_idx, ↓k_block, Nat.reduceEqDiff, Nat.reduceBEq, ↓reduceIte, reduceCtorEq, hb]
  refine k_loop (fun (n : Nat) st => st.fr 0 = .ptr id 1 0 0 ∧ st.fr 1 = .int .i64 l ∧ st.fr 5 = .ref nx n 0 n ∧ st.fr 6 = .int .i64 n ∧ st.h = upd h nx ⟨4, boolA (actB n l), (n == 0), true, true⟩ ∧ st.nx = nx + 1 ∧ n ≤ r) (fun n => r - n) 0
    ⟨(by simp [upd_app] <;> omega), (by simp [upd_app] <;> omega), (by simp [upd_app] <;> omega), (by simp [upd_app] <;> omega), by simp [actB, boolA], rfl, by omega⟩ ?_
  rintro n ⟨fr1, h2, nx1⟩ ⟨g0, g1, g5, g6, eh, enx, hn⟩ J hJ
  simp only at g0 g1 g5 g6 eh enx
  subst eh enx
  by_cases hin : n < r
  · have hel : (boolA (actB n l)).length = n := by rw [boolA_len, actB_len]
    have hz1 : (n + 1 == 0) = false := by simp
    have hlt : decide ((n : Int) < (l : Int)) = decide (n < l) := decide_eq_decide.2 (by omega)
    have hsn : boolA (actB n l) ++ [.bool (decide (n < l))] = boolA (actB (n + 1) l) := by rw [boolA_snoc, actB_succ]
    generalize decide (n < l) = b at hlt hsn
    simp (disch := omega) only [go_sem, ↓k_cond, ↓x_idx, ↓k_block, Nat.reduceEqDiff, Nat.reduceBEq, ↓reduceIte, reduceCtorEq, g0, g1, g5, g6, hb, n1, n2, hr, hel, hlt, reach, hupd, hsn]
    exact hJ (n + 1) _ ⟨(by simp [upd_app, g0] <;> omega), (by simp [upd_app, g1] <;> omega), (by simp [upd_app] <;> omega), (by simp [upd_app] <;> omega), by simp only [hz1], by simp only, hin⟩ (by omega)
  · obtain rfl : n = r := by omega
    have hz : (n == 0) = false := by simp; omega
    simp (disch := omega) only [go_sem, ↓k_cond, ↓x_idx, ↓k_block, Nat.reduceEqDiff, Nat.reduceBEq, ↓reduceIte, reduceCtorEq, g0, g1, g5, g6, hb, n1, n2, hr]
    rw [← hQ]
    exact postIn_one (.inl rfl) rfl (by simp [upd_app] <;> omega) (by rw [hz]) rfl
theorem s_ThresholdActs {m : Mdl} {l : Int} (hs : m.small) : CallOk Tryz.prog 5 [m.av, .int .i64 l] (optB false (actT m l)) [] := by
  have h := cpe (s_l09Parse m hs) c_l09Parse
  have h2 := w_sIn (n := l) (a := 0) (b := m.room)
  unfold actT
  cases hq : modR m with
  | none =>
    rw [hq] at h
    (refine callOk_of_wpc (W := fun g => g == 13) true hm' Tryz.func5 rfl (by kernel_rfl) (Nat.le_of_ble_eq_true rfl) (go_start ?_); generalize hQ : Post Tryz.prog Tryz.f5 _ _ _ _ _ = Q; simp only [stIn, matL, matA, st00])
    simp (disch := first | omega | (simp [upd_app, evA]; done) | (simp [upd_app, evA, *]; done) | fail) only [go_sem, ↓k_cond, ↓x_idx, ↓k_block, Nat.reduceEqDiff, Nat.reduceBEq, ↓reduceIte, reduceCtorEq, h]
    (repeat (with_reducible refine Or.inr ?_))
    rw [← hQ]
    exact postB_two (.inl rfl) rfl (by simp [upd_app] <;> omega) (by simp [upd_app] <;> omega) rfl rfl
  | some x =>
    rw [hq] at h
    obtain ⟨_, _, _, _, k1, k8, hroom, _, _, hrw, hco⟩ := modR_fits hq
    by_cases c : 0 ≤ l ∧ l ≤ m.room
    · obtain ⟨k, rfl⟩ : ∃ k : Nat, l = k := ⟨l.toNat, by omega⟩
      simp only [if_pos c, Int.toNat_natCast]
      simp only [decide_eq_true c] at h2
      (refine callOk_of_wpc (W := fun g => g == 13) true hm' Tryz.func5 rfl (by kernel_rfl) (Nat.le_of_ble_eq_true rfl) (go_start ?_); generalize hQ : Post Tryz.prog Tryz.f5 _ _ _ _ _ = Q; simp only [stIn, matL, matA, st00])
      simp (disch := first | omega | (simp [upd_app, evA]; done) | (simp [upd_app, evA, *]; done) | fail) only [go_sem, ↓k_cond, ↓x_idx, ↓k_block, Nat.reduceEqDiff, Nat.reduceBEq, ↓reduceIte, reduceCtorEq, h, h2]
      (repeat (with_reducible refine Or.inr ?_))
      refine callW_I (i_l09Limit (id := 1) (x := x) (l := k) (by simp [upd_app, hrw, hco]) (by omega) k1 k8 (by omega)) (by kernel_rfl) (.inl rfl) ?_
      simp (disch := omega) only [go_sem, ↓k_cond, ↓x_idx, ↓k_block, Nat.reduceEqDiff, Nat.reduceBEq, ↓reduceIte, reduceCtorEq]
      rw [← hQ]
      exact postB_own (id := 2) (n := x.room) (len := x.room) (.inl rfl) rfl (by simp [upd_app] <;> omega) (by simp [upd_app] <;> omega) (by simp [upd_app]) (by simp [upd_app, boolA_len, actB_len]) (by simp [upd_app]) (by simp [upd_app]) (Nat.le_refl _) (by simp only [upd_app, if_true]; exact List.take_of_length_le (by rw [boolA_len, actB_len]; exact Nat.le_refl _)) (by simp [upd_app]) (by simp [upd_app]) (boolA_pure _) rfl
    · rw [decide_eq_false c] at h2
      simp only [if_neg c]
      (refine callOk_of_wpc (W := fun g => g == 13) true hm' Tryz.func5 rfl (by kernel_rfl) (Nat.le_of_ble_eq_true rfl) (go_start ?_); generalize hQ : Post Tryz.prog Tryz.f5 _ _ _ _ _ = Q; simp only [stIn, matL, matA, st00])
      simp (disch := first | omega | (simp [upd_app, evA]; done) | (simp [upd_app, evA, *]; done) | fail) only [go_sem, ↓k_cond, ↓x_idx, ↓k_block, Nat.reduceEqDiff, Nat.reduceBEq, ↓reduceIte, reduceCtorEq, h, h2]
      (repeat (with_reducible refine Or.inr ?_))
      rw [← hQ]
      exact postB_two (.inl rfl) rfl (by simp [upd_app] <;> omega) (by simp [upd_app] <;> omega) rfl rfl
theorem c_threshold {x : MR} {l : Nat} (h8 : x.room ≤ 8) (h1 : 1 ≤ x.room) (hl : l ≤ x.room) : CallOk Tryz.prog 16 [x.iv, .int .i64 l] (.own 4 (boolA (actB x.room l)) [] true) [] := by
  obtain ⟨r, hr⟩ : ∃ r, x.room = r := ⟨_, rfl⟩
  rw [hr] at h8 h1 hl ⊢
  have hz : List.replicate r (AV.bool false) = boolA (actB r 0) := by rw [actB_zero, boolA, List.map_replicate]
  (refine callOk_of_wpc (W := fun _ => false) true hm' Tryz.func16 rfl (by kernel_rfl) (Nat.le_of_ble_eq_true rfl) (go_start ?_); generalize hQ : Post Tryz.prog Tryz.f16 _ _ _ _ _ = Q; simp only [stIn, matL, matA, st00])
  simp (disch := omega) only [go_sem, ↓k_cond, ↓x_idx, ↓k_block, Nat.reduceEqDiff, Nat.reduceBEq, ↓reduceIte, reduceCtorEq, hr, reach]
  refine k_loop (fun (n : Nat) st => st.fr 5 = .ref 1 r 0 r ∧ st.fr 10 = .int .i64 l ∧ st.fr 11 = .int .i64 n ∧ st.h 1 = ⟨4, boolA (actB r n), true, true, true⟩ ∧ n ≤ l) (fun n => l - n) 0
    ⟨(by simp [upd_app] <;> omega), (by simp [upd_app] <;> omega), (by simp [upd_app] <;> omega), by simp [upd_app, hz], by omega⟩ ?_
  rintro n ⟨fr, h, nx⟩ ⟨g5, g10, g11, hm, hn⟩ J hJ
  simp only at g5 g10 g11 hm
  by_cases hin : n < l
  · have hel : (boolA (actB r n)).length = r := by rw [boolA_len, actB_len]
    obtain ⟨b, hat⟩ := get_some (xs := actB r n) (i := n) (by rw [actB_len]; omega)
    have hset : (boolA (actB r n)).set n (.bool true) = boolA (actB r (n + 1)) := by rw [boolA_put, actB_set]
    simp (disch := omega) only [go_sem, ↓k_cond, ↓x_idx, ↓k_block, Nat.reduceEqDiff, Nat.reduceBEq, ↓reduceIte, reduceCtorEq, g5, g10, g11, hm, hel, boolA_at, hat, hset]
    exact hJ (n + 1) _ ⟨(by simp [upd_app, g5] <;> omega), (by simp [upd_app, g10] <;> omega), (by simp [upd_app] <;> omega), by simp [upd_app, hset], hin⟩ (by omega)
  · obtain rfl : n = l := by omega
    simp (disch := omega) only [go_sem, ↓k_cond, ↓x_idx, ↓k_block, Nat.reduceEqDiff, Nat.reduceBEq, ↓reduceIte, reduceCtorEq, g5, g10, g11]
    rw [← hQ]
    exact post_own (id := 1) (n := r) (len := r) (.inl rfl) rfl (by simp [upd_app] <;> omega) (by simp [hm]) (by simp [hm, boolA_len, actB_len]) (by simp [hm]) (by simp [hm]) (Nat.le_refl _) (by simp only [hm]; exact List.take_of_length_le (by rw [boolA_len, actB_len]; exact Nat.le_refl _)) (by simp [hm, boolA_len, actB_len]) (by simp [hm]) (by simp) rfl
theorem i_ThresholdActs {m : Mdl} {l : Int} (hs : m.small) : CallOk Tryz.prog 7 [m.av, .int .i64 l] (optB true (actT m l)) [] := by
  have h1 := i_modelOf m hs
  unfold actT
  cases hq : modR m with
  | none =>
    rw [hq] at h1
    (refine callOk_of_wpc (W := fun g => g == 16) true hm' Tryz.func7 rfl (by kernel_rfl) (Nat.le_of_ble_eq_true rfl) (go_start ?_); generalize hQ : Post Tryz.prog Tryz.f7 _ _ _ _ _ = Q; simp only [stIn, matL, matA, st00])
    simp (disch := omega) only [go_sem, ↓k_cond, ↓x_idx, ↓k_block, Nat.reduceEqDiff, Nat.reduceBEq, ↓reduceIte, reduceCtorEq, h1]
    (repeat (with_reducible refine Or.inr ?_))
    rw [← hQ]
    exact postB_two (.inl rfl) rfl (by simp [upd_app] <;> omega) (by simp [upd_app] <;> omega) rfl rfl
  | some x =>
    rw [hq] at h1
    obtain ⟨_, _, _, _, k1, k8, hroom, _⟩ := modR_fits hq
    have h2 := w_in (n := l) (a := 0) (b := m.room)
    by_cases c : 0 ≤ l ∧ l ≤ m.room
    · obtain ⟨k, rfl⟩ : ∃ k : Nat, l = k := ⟨l.toNat, by omega⟩
      simp only [if_pos c, Int.toNat_natCast]
      simp only [decide_eq_true c] at h2
      have hw : IntKind.i64.wrap (k : Int) = k := wrapI (by omega) (by omega)
      (refine callOk_of_wpc (W := fun g => g == 16) true hm' Tryz.func7 rfl (by kernel_rfl) (Nat.le_of_ble_eq_true rfl) (go_start ?_); generalize hQ : Post Tryz.prog Tryz.f7 _ _ _ _ _ = Q; simp only [stIn, matL, matA, st00])
      simp (disch := omega) only [go_sem, ↓k_cond, ↓x_idx, ↓k_block, Nat.reduceEqDiff, Nat.reduceBEq, ↓reduceIte, reduceCtorEq, h1, h2, hw]
      (repeat (with_reducible refine Or.inr ?_))
      refine callW_O (c_threshold (x := x) (l := k) k8 k1 (by omega)) (by kernel_rfl) (by simp [AV.pure, AV.pureL, natA_pure, natI_pure, natS_pure]) (boolA_pure _) rfl rfl ?_
      simp only [List.length_nil, Nat.add_zero, List.append_nil, boolA_len, actB_len]
      simp (disch := omega) only [go_sem, ↓k_cond, ↓x_idx, ↓k_block, Nat.reduceEqDiff, Nat.reduceBEq, ↓reduceIte, reduceCtorEq]
      rw [← hQ]
      exact postB_own (id := 2) (n := x.room) (len := x.room) (.inl rfl) rfl (by simp [upd_app] <;> omega) (by simp [upd_app] <;> omega) (by simp [upd_app]) (by simp [upd_app, boolA_len, actB_len]) (by simp [upd_app]) (by simp [upd_app]) (Nat.le_refl _) (by simp only [upd_app, if_true]; exact List.take_of_length_le (by rw [boolA_len, actB_len]; exact Nat.le_refl _)) (by simp [upd_app, boolA_len, actB_len]) (by simp [upd_app]) (boolA_pure _) rfl
    · rw [decide_eq_false c] at h2
      simp only [if_neg c]
      (refine callOk_of_wpc (W := fun g => g == 16) true hm' Tryz.func7 rfl (by kernel_rfl) (Nat.le_of_ble_eq_true rfl) (go_start ?_); generalize hQ : Post Tryz.prog Tryz.f7 _ _ _ _ _ = Q; simp only [stIn, matL, matA, st00])
      simp (disch := omega) only [go_sem, ↓k_cond, ↓x_idx, ↓k_block, Nat.reduceEqDiff, Nat.reduceBEq, ↓reduceIte, reduceCtorEq, h1, h2]
      (repeat (with_reducible refine Or.inr ?_))
      rw [← hQ]
      exact postB_two (.inl rfl) rfl (by simp [upd_app] <;> omega) (by simp [upd_app] <;> omega) rfl rfl
theorem snapB1 {st : St} {id n : Nat} {bs : List Bool} {ex gr : Bool} (h : st.h id = ⟨4, boolA bs, ex, gr, true⟩) (hn : bs.length = n) : snapA st 8 (.ref id n 0 n) = some (.sl 4 (boolA bs) [] false, [id]) :=
  snap_frozen (d := 7) (by rw [h]) (by rw [h, boolA_len, hn]) (by rw [h]) (by omega) (by rw [h, List.drop_zero]; exact List.take_of_length_le (by rw [boolA_len]; omega)) (boolA_pure _)
theorem snapB2 {st : St} {i j n : Nat} {bs cs : List Bool} {ex ex' gr gr' : Bool} (hi : st.h i = ⟨4, boolA bs, ex, gr, true⟩) (hj : st.h j = ⟨4, boolA cs, ex', gr', true⟩) (hn : bs.length = n) (hm : cs.length = n) :
    snapL (snapA st 8) [.ref i n 0 n, .ref j n 0 n] = some ([.sl 4 (boolA bs) [] false, .sl 4 (boolA cs) [] false], [i, j]) := by
  simp [snapL, snapB1 hi hn, snapB1 hj hm]
theorem w_markNilB {k : Int} : CW Tryz.prog 9 [.nil, .int .i64 k] (.int .i64 k) := by
  refine cw (by kernel_rfl) (by simp [AV.pure, AV.pureL, natA_pure, natI_pure, natS_pure]) (by simp [AV.pure, AV.pureL, natA_pure, natI_pure, natS_pure]) ?_
  (refine callOk_of_wpc (W := fun _ => false) false hm' Tryz.func9 rfl (by kernel_rfl) (Nat.le_of_ble_eq_true rfl) (go_start ?_); generalize hQ : Post Tryz.prog Tryz.f9 _ _ _ _ _ = Q; simp only [stIn, matL, matA, st00])
  simp (disch := omega) only [go_sem, ↓k_cond, ↓x_idx, ↓k_block, Nat.reduceEqDiff, Nat.reduceBEq, ↓reduceIte, reduceCtorEq]
  refine k_loop (fun (_ : Nat) st => st.fr 0 = .nil ∧ st.fr 1 = .int .i64 k ∧ st.fr 5 = .int .i64 0) (fun i => i) 0 ⟨(by simp [upd_app] <;> omega), (by simp [upd_app] <;> omega), (by simp [upd_app] <;> omega)⟩ ?_
  rintro i ⟨fr, h, nx⟩ ⟨g0, g1, g5⟩ J hJ
  simp only at g0 g1 g5
  simp (disch := omega) only [go_sem, ↓k_cond, ↓x_idx, ↓k_block, Nat.reduceEqDiff, Nat.reduceBEq, ↓reduceIte, reduceCtorEq, g0, g1, g5]
  rw [← hQ]
  exact post_one (.inl rfl) rfl (by simp [upd_app] <;> omega) rfl
theorem law_ThresholdActs (m : Mdl) (hl : m.lens) (l : Int) : CallOk Tryz.prog 3 [m.av, .int .i64 l] (.bool true) [] := by
  have h1 := l_szModel m 1000000 (by omega) (by omega) hl
  have h2 := l_toModel m
  obtain ⟨z, hz⟩ : ∃ z, szM m 1000000 = z := ⟨_, rfl⟩
  rw [hz] at h1
  by_cases hneg : z < 0
  · (refine callOk_of_wpc (W := fun g => g == 7 || g == 5 || g == 9) false hm' Tryz.func3 rfl (by kernel_rfl) (Nat.le_of_ble_eq_true rfl) (go_start ?_); generalize hQ : Post Tryz.prog Tryz.f3 _ _ _ _ _ = Q; simp only [stIn, matL, matA, st00])
    simp (disch := omega) only [go_sem, ↓k_cond, ↓x_idx, ↓k_block, Nat.reduceEqDiff, Nat.reduceBEq, ↓reduceIte, reduceCtorEq, h1]
    (repeat (with_reducible refine Or.inr ?_))
    rw [← hQ]
    exact post_one (.inl rfl) rfl (by simp [upd_app] <;> omega) rfl
  · have hs : m.small := szM_small (l := 1000000) (by omega) (by rw [hz]; exact hneg)
    have hS := s_ThresholdActs (l := l) hs
    have hI := i_ThresholdActs (l := l) hs
    have hlen : ∀ bs, actT m l = some bs → bs.length ≤ 8 := fun bs => actT_len
    generalize actT m l = o at *
    have heqN := (l_eqB (bs := []) (by simp)).args (SubL.cons sub_nil (SubL.cons sub_nil .nil))
    have hheldN := (l_heldB (n := 0) (k := 101) (by omega)).args (SubL.cons sub_nil (SubL.cons (Sub.refl _) .nil))
    cases o with
    | none =>
      rw [optB] at hI hS
      (refine callOk_of_wpc (W := fun g => g == 7 || g == 5 || g == 9) false hm' Tryz.func3 rfl (by kernel_rfl) (Nat.le_of_ble_eq_true rfl) (go_start ?_); generalize hQ : Post Tryz.prog Tryz.f3 _ _ _ _ _ = Q; simp only [stIn, matL, matA, st00])
      simp (disch := omega) only [go_sem, ↓k_cond, ↓x_idx, ↓k_block, Nat.reduceEqDiff, Nat.reduceBEq, ↓reduceIte, reduceCtorEq, h1, h2]
      (repeat (with_reducible refine Or.inr ?_))
      refine callW_X hS (by kernel_rfl) (snapL_pure rfl) rfl (matA_pure _ _ _ rfl) rfl ?_
      simp (disch := omega) only [go_sem, ↓k_cond, ↓x_idx, ↓k_block, Nat.reduceEqDiff, Nat.reduceBEq, ↓reduceIte, reduceCtorEq, h2]
      (repeat (with_reducible refine Or.inr ?_))
      refine callW_X hI (by kernel_rfl) (snapL_pure rfl) rfl (matA_pure _ _ _ rfl) rfl ?_
      simp (disch := omega) only [go_sem, ↓k_cond, ↓x_idx, ↓k_block, Nat.reduceEqDiff, Nat.reduceBEq, ↓reduceIte, reduceCtorEq]
      refine callW_P heqN (by kernel_rfl) rfl rfl ?_
      simp (disch := omega) only [go_sem, ↓k_cond, ↓x_idx, ↓k_block, Nat.reduceEqDiff, Nat.reduceBEq, ↓reduceIte, reduceCtorEq, w_markNilB]
      (repeat (with_reducible refine Or.inr ?_))
      refine callW_P hheldN (by kernel_rfl) rfl rfl ?_
      simp (disch := omega) only [go_sem, ↓k_cond, ↓x_idx, ↓k_block, Nat.reduceEqDiff, Nat.reduceBEq, ↓reduceIte, reduceCtorEq, h2]
      (repeat (with_reducible refine Or.inr ?_))
      refine callW_X hI (by kernel_rfl) (snapL_pure rfl) rfl (matA_pure _ _ _ rfl) rfl ?_
      simp (disch := omega) only [go_sem, ↓k_cond, ↓x_idx, ↓k_block, Nat.reduceEqDiff, Nat.reduceBEq, ↓reduceIte, reduceCtorEq]
      refine callW_P heqN (by kernel_rfl) rfl rfl ?_
      simp (disch := omega) only [go_sem, ↓k_cond, ↓x_idx, ↓k_block, Nat.reduceEqDiff, Nat.reduceBEq, ↓reduceIte, reduceCtorEq]
      refine callW_P hheldN (by kernel_rfl) rfl rfl ?_
      simp (disch := omega) only [go_sem, ↓k_cond, ↓x_idx, ↓k_block, Nat.reduceEqDiff, Nat.reduceBEq, ↓reduceIte, reduceCtorEq]
      rw [← hQ]
      exact post_one (.inl rfl) rfl (by simp [upd_app] <;> omega) rfl
    | some bs =>
      have htl := hlen bs rfl
      rw [optB] at hI hS
      have heq := l_eqB (bs := bs) (by omega)
      have hheld := l_heldB (n := bs.length) (k := 101) (by omega)
      (refine callOk_of_wpc (W := fun g => g == 7 || g == 5 || g == 9) false hm' Tryz.func3 rfl (by kernel_rfl) (Nat.le_of_ble_eq_true rfl) (go_start ?_); generalize hQ : Post Tryz.prog Tryz.f3 _ _ _ _ _ = Q; simp only [stIn, matL, matA, st00])
      simp (disch := omega) only [go_sem, ↓k_cond, ↓x_idx, ↓k_block, Nat.reduceEqDiff, Nat.reduceBEq, ↓reduceIte, reduceCtorEq, h1, h2]
      (repeat (with_reducible refine Or.inr ?_))
      refine callW_X hS (by kernel_rfl) (snapL_pure rfl) (optB_solid false (some bs)) (matA_ownB (boolA_pure bs) rfl) rfl ?_
      simp only [boolA_len, List.length_nil, Nat.add_zero, List.append_nil]
      simp (disch := omega) only [go_sem, ↓k_cond, ↓x_idx, ↓k_block, Nat.reduceEqDiff, Nat.reduceBEq, ↓reduceIte, reduceCtorEq, h2]
      (repeat (with_reducible refine Or.inr ?_))
      refine callW_X hI (by kernel_rfl) (snapL_pure rfl) (optB_solid true (some bs)) (matA_ownB (boolA_pure bs) rfl) rfl ?_
      simp only [boolA_len, List.length_nil, Nat.add_zero, List.append_nil]
      simp (disch := omega) only [go_sem, ↓k_cond, ↓x_idx, ↓k_block, Nat.reduceEqDiff, Nat.reduceBEq, ↓reduceIte, reduceCtorEq]
      refine callW_S heq (by kernel_rfl) (snapB2 (ex := true) (gr := true) (ex' := false) (gr' := true) (by simp [upd_app]) (by simp [upd_app]) rfl rfl) rfl rfl ?_
      simp (disch := omega) only [go_sem, ↓k_cond, ↓x_idx, ↓k_block, Nat.reduceEqDiff, Nat.reduceBEq, ↓reduceIte, reduceCtorEq]
      refine callW_I (i_markB (k := 101) (xs := bs) (n := bs.length) (ex := true) (gr := true) (by simp [upd_app]) rfl (by omega)) (by kernel_rfl) (.inl rfl) ?_
      simp (disch := omega) only [go_sem, ↓k_cond, ↓x_idx, ↓k_block, Nat.reduceEqDiff, Nat.reduceBEq, ↓reduceIte, reduceCtorEq]
      refine callW_S hheld (by kernel_rfl) (snap_bools (ex := true) (gr := true) (by simp [upd_app]) (marksB_len _ _) rfl) rfl rfl ?_
      simp (disch := omega) only [go_sem, ↓k_cond, ↓x_idx, ↓k_block, Nat.reduceEqDiff, Nat.reduceBEq, ↓reduceIte, reduceCtorEq, h2]
      (repeat (with_reducible refine Or.inr ?_))
      refine callW_X hI (by kernel_rfl) (snapL_pure rfl) (optB_solid true (some bs)) (matA_ownB (boolA_pure bs) rfl) rfl ?_
      simp only [boolA_len, List.length_nil, Nat.add_zero, List.append_nil]
      simp (disch := omega) only [go_sem, ↓k_cond, ↓x_idx, ↓k_block, Nat.reduceEqDiff, Nat.reduceBEq, ↓reduceIte, reduceCtorEq]
      refine callW_S heq (by kernel_rfl) (snapB2 (ex := true) (gr := true) (ex' := false) (gr' := true) (by simp [upd_app]) (by simp [upd_app]) rfl rfl) rfl rfl ?_
      simp (disch := omega) only [go_sem, ↓k_cond, ↓x_idx, ↓k_block, Nat.reduceEqDiff, Nat.reduceBEq, ↓reduceIte, reduceCtorEq]
      refine callW_S hheld (by kernel_rfl) (snap_bools (ex := true) (gr := true) (by simp [upd_app]) (marksB_len _ _) rfl) rfl rfl ?_
      simp (disch := omega) only [go_sem, ↓k_cond, ↓x_idx, ↓k_block, Nat.reduceEqDiff, Nat.reduceBEq, ↓reduceIte, reduceCtorEq]
      rw [← hQ]
      exact post_one (.inl rfl) rfl (by simp [upd_app] <;> omega) rfl
def tyM : Ty := .st [.int .i64, .str, .str, .str, .str]
theorem isT_M {x : AV} (h : isT tyM x) : ∃ m : Mdl, x = m.av ∧ m.lens := by
  obtain ⟨xs, rfl, h⟩ := h
  obtain ⟨_, _, rfl, ⟨n, rfl, hn⟩, _, _, rfl, ⟨s1, rfl, h1⟩, _, _, rfl, ⟨s2, rfl, h2⟩, _, _, rfl, ⟨s3, rfl, h3⟩, _, _, rfl, ⟨s4, rfl, h4⟩, rfl⟩ := h
  exact ⟨⟨n, s1, s2, s3, s4⟩, rfl, ⟨h1, h2, h3, h4⟩⟩
theorem lawOk_ThresholdActs : LawOk Tryz.prog 3 [.st [.int .i64, .str, .str, .str, .str], .cell (.int .i64)] := by
  intro xs h
  obtain ⟨x, _, rfl, hx, y, _, rfl, hy, rfl⟩ := h
  obtain ⟨m, rfl, hm⟩ := isT_M hx
  obtain ⟨l, rfl, _⟩ := hy
  exact law_ThresholdActs m hm l
attribute [go_sem] w_markNilB
end Go.Proofs.YthmdjijacoafeaaGreatDoor
