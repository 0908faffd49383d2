/- Ground 3. -/
import Derived.Test.YthiddlfddncbmaaGreatDoorProg
import Derived.KernelRfl
import Derived.Test.YthiddlfddncbmaaGreatDoorChecked
import Derived.Lib.Bytealg
import Derived.WalkKit
import Derived.Below
import Derived.Test.YthiddlfddncbmaaGreatDoorM2

set_option linter.unusedVariables false
set_option linter.unusedSimpArgs false
set_option maxRecDepth 100000
namespace Go.Proofs.YthiddlfddncbmaaGreatDoor
open Go

def Sub (P : Program) (x y : AV) : Prop := ∀ E v L, ownR P E x v L → ownR P E y v L
def SubL (P : Program) (xs ys : List AV) : Prop := ∀ E vs L, ownRL P E xs vs L → ownRL P E ys vs L
section
variable {P : Program}
theorem Sub.refl (x : AV) : Sub P x x := fun _ _ _ h => h
theorem Sub.trans {x y z : AV} (h : Sub P x y) (k : Sub P y z) : Sub P x z := fun E v L hx => k E v L (h E v L hx)
theorem SubL.nil : SubL P [] [] := fun _ _ _ h => h
theorem SubL.refl (xs : List AV) : SubL P xs xs := fun _ _ _ h => h
theorem SubL.cons {x y : AV} {xs ys : List AV} (h : Sub P x y) (k : SubL P xs ys) : SubL P (x :: xs) (y :: ys) := by
 intro E vs L hx
 simp only [ownRL] at hx ⊢
 obtain ⟨v, us, L1, L2, h1, h2, h3, h4⟩ := hx
 exact ⟨v, us, L1, L2, h1, h2, h E v L1 h3, k E us L2 h4⟩
theorem Fm {xs ys : List AV} (h : SubL P xs ys) : Sub P (.agg xs) (.agg ys) := by
 intro E v L hx
 simp only [ownR] at hx ⊢
 obtain ⟨vs, h1, h2⟩ := hx
 exact ⟨vs, h1, h E vs L h2⟩
theorem Ja {xs ys : List AV} (h : SubL P xs ys) : Sub P (.tup xs) (.tup ys) := by
 intro E v L hx
 simp only [ownR] at hx ⊢
 obtain ⟨vs, h1, h2⟩ := hx
 exact ⟨vs, h1, h E vs L h2⟩
theorem G6 {t : Nat} {ex : Bool} : Sub P .nil (.sl t [] [] ex) := by
 intro E v L hx
 simp only [ownR, rep] at hx ⊢
 obtain ⟨h1, a, h2⟩ := hx
 exact ⟨h1, zP, a, 0, by simpa using h2, zS, zS, zS, [], [], by simp [repL], by simp [repL], zS⟩
theorem Jb {c : Array Value} {off sz : Nat} {vs us : List Value} (h : CellsAt c off sz (vs ++ us)) : CellsAt c off sz vs := by
 intro i v hv
 refine h i v ?_
 rw [List.getElem?_append_left (List.getElem?_eq_some_iff.1 hv).1]; exact hv
theorem Cm {t : Nat} {xs sp : List AV} {ex : Bool} : Sub P (.sl t xs sp ex) (.sl t xs [] false) := by
 intro E v L hx
 simp only [ownR, rep] at hx ⊢
 obtain ⟨h1, hp, a, cap, h2, h3, h4, h5, vs, us, h6, h7, h8⟩ := hx
 simp only [AV.pure, Bool.and_eq_true] at hp
 refine ⟨h1, by simp [AV.pure, AV.pureL, hp.1], a, cap, h2, zW, zS, fun x hx => h5 x (by simp at hx ⊢; exact .inl hx), vs, [], h6, by simp [repL], fun hne => ?_⟩
 obtain ⟨b, off, c, fz, k1, k2, k3, k4⟩ := h8 (by simp at hne ⊢; intro h; exact absurd h hne)
 exact ⟨b, off, c, fz, k1, k2, k3, by rw [List.append_nil]; exact Jb k4⟩
def SubEl (P : Program) (x y : AV) : Prop := Sub P x y ∧ x.pure = true ∧ y.pure = true ∧ ∀ t, x.el P t = true → y.el P t = true
inductive SubLL (P : Program) : List AV → List AV → Prop
 | nil : SubLL P [] []
 | cons {x y : AV} {xs ys : List AV} : SubEl P x y → SubLL P xs ys → SubLL P (x :: xs) (y :: ys)
theorem SubLL.length {xs ys : List AV} (h : SubLL P xs ys) : xs.length = ys.length := by induction h <;> simp_all
theorem SubLL.pure {xs ys : List AV} (h : SubLL P xs ys) : AV.pureL xs = true ∧ AV.pureL ys = true := by
 induction h with
 | nil => simp [AV.pureL]
 | cons h _ ih => simp [AV.pureL, h.2.1, h.2.2.1, ih]
theorem SubLL.el {xs ys : List AV} {t : Nat} (h : SubLL P xs ys) : (∀ x ∈ xs, x.el P t = true) → ∀ y ∈ ys, y.el P t = true := by
 induction h with
 | nil => simp
 | cons h _ ih => intro hx; simp only [List.forall_mem_cons] at hx ⊢; exact ⟨h.2.2.2 t hx.1, ih hx.2⟩
theorem SubLL.rep {xs ys : List AV} {E : Env} (h : SubLL P xs ys) : ∀ {vs : List Value}, repL P E xs vs → repL P E ys vs := by
 induction h with
 | nil => exact fun h => h
 | @cons x y xs ys h _ ih =>
  intro vs hv
  simp only [repL] at hv ⊢
  obtain ⟨v, us, h1, h2, h3⟩ := hv
  refine ⟨v, us, h1, ?_, ih h3⟩
  exact (EV y v [] h.2.2.1 (h.1 E v [] (Bw x v h.2.1 h2))).2
theorem SR {t : Nat} {xs ys : List AV} (h : SubLL P xs ys) : Sub P (.sl t xs [] false) (.sl t ys [] false) := by
 intro E v L hx
 simp only [ownR, Go.Proofs.YthiddlfddncbmaaGreatDoor.rep] at hx ⊢
 obtain ⟨h1, hp, a, cap, h2, h3, h4, h5, vs, us, h6, h7, h8⟩ := hx
 refine ⟨h1, by simp [AV.pure, AV.pureL, h.pure.2], a, cap, by rw [← h.length]; exact h2, by rw [← h.length]; exact h3, zS, ?_, vs, us, h.rep h6, h7, by rw [← h.length]; exact h8⟩
 rw [List.append_nil] at h5 ⊢
 exact h.el h5
theorem CallOk.res {f : FuncId} {args : List AV} {r r' : AV} {outs : List (List AV)} (h : CallOk P f args r outs) (hs : Sub P r r') : CallOk P f args r' outs := by
 intro w I vs L h1 h2 h3
 refine (h w I vs L h1 h2 h3).mono ?_
 rintro e w' ⟨v, I', L', k1, k2, k3, k4, k5, k6, k7, k8, k9⟩
 exact ⟨v, I', L', k1, k2, k3, k4, k5, hs _ _ _ k6, k7, k8, k9⟩
theorem CallOk.args {f : FuncId} {args args' : List AV} {r : AV} {outs : List (List AV)} (h : CallOk P f args' r outs) (hs : SubL P args args') : CallOk P f args r outs :=
 fun w I vs L h1 h2 h3 => h w I vs L h1 (hs _ _ _ h2) h3
end
def PostIn (P : Program) (fn : Func) (x : AV) (h' : Nat → Blk) (nx' : Nat) (e : Ex) (st : St) : Prop :=
 (match e with | .exit _ => False | _ => True) ∧ resV P st fn.results.toList = some x ∧ st.h = h' ∧ st.nx = nx'
theorem Jc {P : Program} {W : WP} {f : FuncId} {fn : Func} {c : Code} {args : List AV} {x : AV} {fr : Nat → AV} {h h' : Nat → Blk} {nx nx' : Nat} (hm : P.follows .mixedOrders = true) (hf : P.funcs[f]? = some fn) (hb : fn.body = some c)
  (hok : codeOk W fn.ntmps c = true) (hn : args.length ≤ fn.ntmps) (hw : wpc P W c ⟨fun i => args.getD i .undef, h, nx⟩ (PostIn P fn x h' nx')) : InOk P ⟨fr, h, nx⟩ f args x ⟨fr, h', nx'⟩ := by
 refine ⟨rfl, fun E vs hE hh hnx has => ?_⟩
 simp only at hh hnx
 have hargl : args.length = vs.length := (AO has).symm
 refine calls_of_wp hf hb ?_
 have hR : Rel P E ⟨fun i => args.getD i .undef, h, nx⟩ { tmps := vs.toArray ++ Array.replicate (fn.ntmps - vs.toArray.size) undef, defers := [] } := by
  refine ⟨hE, hh, hnx, fun t => ?_⟩
  by_cases ht : t < args.length
  ·have h1 : args[t]? = some (args[t]'(by omega)) := List.getElem?_eq_getElem zO
   obtain ⟨v, hv, hr⟩ := BI has t _ h1
   simp only [List.getD_eq_getElem?_getD, h1]
   rw [Array.getD_eq_getD_getElem?, Array.getElem?_append_left zW]
   have : vs.toArray[t]? = some v := by simpa using hv
   rw [this]; exact hr
  ·simp only [List.getD_eq_getElem?_getD]
   rw [List.getElem?_eq_none zO]
   simp [rep]
 have hsize : (vs.toArray ++ Array.replicate (fn.ntmps - vs.toArray.size) undef).size = fn.ntmps := by simp; omega
 refine wp_mono (BW hm c hok _ _ _ E hw hR hsize rfl) fun e a' w' hq => ?_
 obtain ⟨y, st', E', rfl, ⟨hy, hv, h1, h2⟩, rfl, hR', hn', hd', hle, hgo⟩ := hq
 obtain ⟨u, hres, hru⟩ := DW hR' hv
 have hend : bodyPost P fn (fun e w' => ∃ v E', e = .returned v ∧ E'.w = w' ∧ E'.h = h' ∧ E'.nx = nx' ∧ E.Le E' ∧ Ok P E' ∧ Goes P E E' ∧ rep P E' x v) .ret a' E'.w :=
  ⟨hd', u, hres, u, E', rfl, rfl, by rw [← hR'.h, h1], by rw [← hR'.nx, h2], hle, hR'.ok, hgo, hru⟩
 cases y with
 | normal => exact hend
 | ret => exact hend
 | exit i => exact hy.elim
theorem Bt {P : Program} {fn : Func} {t : Tmp} {x : AV} {st : St} {e : Ex} {h' : Nat → Blk} {nx' : Nat} (he : e = .ret ∨ e = .normal) (hr : fn.results.toList = [.tmp t]) (hv : st.fr t = x) (h1 : st.h = h') (h2 : st.nx = nx') : PostIn P fn x h' nx' e st :=
 ⟨by rcases he with rfl | rfl <;> trivial, by rw [hr]; simp [resV, resL, resA, hv], h1, h2⟩
theorem Bd {P : Program} {W : FuncId → Bool} {f : FuncId} {fn : Func} {c : Code} {args : List AV} {x : AV} {fr : Nat → AV} {h h' : Nat → Blk} {nx nx' : Nat} (hm : P.follows .mixedOrders = true) (hf : P.funcs[f]? = some fn) (hb : fn.body = some c)
 (hok : codeOk ⟨W, fun _ => none⟩ fn.ntmps c = true) (hn : args.length ≤ fn.ntmps) (hw : wpc P ⟨W, fun _ => none⟩ c ⟨fun i => args.getD i .undef, h, nx⟩ (PostIn P fn x h' nx')) : InOk P ⟨fr, h, nx⟩ f args x ⟨fr, h', nx'⟩ := Jc hm hf hb hok hn hw
theorem M5 (h : Nat → Blk) (ids : List Nat) (i : Nat) : (eatH h ids i).xs = (h i).xs ∧ (eatH h ids i).t = (h i).t ∧ (eatH h ids i).gr = (h i).gr ∧ (eatH h ids i).ex = (h i).ex := by
 unfold eatH; split <;> exact ⟨rfl, rfl, rfl, rfl⟩
theorem Fo {h : Nat → Blk} {ids : List Nat} {i : Nat} (hl : (eatH h ids i).lv = true) : i ∉ ids ∧ (h i).lv = true ∧ eatH h ids i = h i := by
 unfold eatH at hl ⊢
 split at hl
 ·simp at hl
 ·rename_i hi; exact ⟨hi, hl, by simp [hi]⟩
theorem Gi {P : Program} {st st' : St} {g : FuncId} {as0 as1 : List AV} {ids : List Nat} {x : AV} (hs : snapL (snapA st 8) as0 = some (as1, ids)) (hg : ∀ i ∈ ids, (st.h i).gr = true)
  (h : InOk P { st with h := eatH st.h ids } g as1 x st') : InOk P st g as0 x st' := by
 refine ⟨h.1, fun E vs hE hh hnx has => ?_⟩
 have hsound : ∀ (as0 as1 : List AV) (ids : List Nat) (vs : List Value), snapL (snapA st 8) as0 = some (as1, ids) → repL P E as0 vs → AV.pureL as1 = true ∧ repL P (E.shut ids) as1 vs ∧ ∀ i ∈ ids, (E.h i).lv = true := by
  intro as0
  induction as0 with
  | nil =>
   intro as1 ids vs h hr
   simp only [snapL, Option.some.injEq, Prod.mk.injEq] at h
   obtain ⟨rfl, rfl⟩ := h
   simp only [repL] at hr
   exact ⟨by simp [AV.pureL], by simpa [repL] using hr, zS⟩
  | cons a as0 ih =>
   intro as1 ids vs h hr
   obtain ⟨y, i, ys, is, h1, h2, h3⟩ := CJ h
   simp only [Prod.mk.injEq] at h3
   obtain ⟨rfl, rfl⟩ := h3
   simp only [repL] at hr
   obtain ⟨v, us, rfl, hv, hus⟩ := hr
   obtain ⟨p1, p2, p3⟩ := C1 hE hh 8 a y i v h1 hv
   obtain ⟨q1, q2, q3⟩ := ih ys is us h2 hus
   refine ⟨by simp [AV.pureL, p1, q1], ?_, fun j hj => (List.mem_append.1 hj).elim (p3 j) (q3 j)⟩
   simp only [repL]
   exact ⟨v, us, rfl, Et (fun a ha => List.mem_append.2 (.inl ha)) p1 p2, CK (fun a ha => List.mem_append.2 (.inr ha)) q1 q2⟩
 obtain ⟨s1, s2, s3⟩ := hsound as0 as1 ids vs hs has
 obtain ⟨E1, hE1⟩ : ∃ E1 : Env, E1 = ⟨E.w, (E.shut ids).I, E.m, eatH E.h ids, E.nx⟩ := ⟨_, rfl⟩
 have hLe : E.Le E1 := by
  rw [hE1]
  refine ⟨Nat.le_refl _, fun b hb => ⟨.inl hb, rfl⟩, fun i hi => by rw [(M5 E.h ids i).1]; exact Nat.le_refl _, fun i hi n hn h1 h2 => ?_⟩
  obtain ⟨_, k2, k3⟩ := Fo h1
  simp only [k3] at h2 ⊢
  exact ⟨k2, h2, zS, zS⟩
 have hGo : Goes P E E1 := by
  rw [hE1]
  refine ⟨rfl, rfl, rfl, Nat.le_refl _, fun _ _ _ => rfl, fun _ _ c h => ⟨c, h, rfl, fun _ _ => rfl⟩, fun i hi => ?_, fun b hb => ?_, Nat.le_refl _, fun i _ => (M5 E.h ids i).2.2.1⟩
  ·obtain ⟨_, k2, k3⟩ := Fo hi
   exact .inl ⟨k2, rfl, by simp only [k3], by simp only [Env.lim, k3]⟩
  ·rcases hb with h | ⟨i, hi, h1, h2⟩
   ·exact .inl h
   ·exact .inr (.inr ⟨i, h1, by rw [← hh]; exact hg i hi, h2⟩)
 have hOk : Ok P E1 := by
  refine ⟨fun i hi => ?_, fun i j hi hj e => ?_, fun b hb => ?_, hE.tab.le hLe⟩
  ·have hi' : (eatH E.h ids i).lv = true := by rw [hE1] at hi; exact hi
   obtain ⟨k1, k2, k3⟩ := Fo hi'
   have B := hE.blk i k2
   obtain ⟨c, ws, a1, a2, a3, a4⟩ := B.at_
   have e : E1.h i = E.h i := by rw [hE1]; exact k3
   have em : E1.m i = E.m i := by rw [hE1]
   refine ⟨by rw [hE1]; exact B.lt, by rw [e, em]; exact B.gr, by rw [e, em]; exact B.ex, by rw [e, em]; exact B.le, by rw [e]; exact B.cl, ?_, c, ws, by rw [e, em, hE1]; exact a1, by rw [e]; exact Ax hLe _ _ a2, by rw [e, em]; exact a3, by rw [e, em]; exact a4⟩
   rw [em, hE1]
   rintro (h | ⟨j, hj, h1, h2⟩)
   ·exact B.dark h
   ·exact k1 (hE.inj j i h1 k2 h2 ▸ hj)
  ·rw [hE1] at hi hj e
   exact hE.inj i j (Fo hi).2.1 (Fo hj).2.1 e
  ·rw [hE1] at hb ⊢
   rcases hb with h | ⟨i, hi, h1, h2⟩
   ·exact hE.imm b h
   ·obtain ⟨c, ws, a1, _⟩ := (hE.blk i h1).at_
    rw [← h2]; exact BC a1
 have hrep : repL P E1 as1 vs := by rw [hE1]; exact BP (E := E.shut ids) (E' := ⟨E.w, (E.shut ids).I, E.m, eatH E.h ids, E.nx⟩) (fun b hb => ⟨hb, rfl⟩) as1 vs s1 s2
 have hw : E1.w = E.w := by rw [hE1]
 have := h.2 E1 vs hOk (by rw [hE1]; simp only [hh]) (by rw [hE1]; exact hnx) hrep
 rw [hw] at this
 refine this.mono ?_
 rintro e w' ⟨v, E', h1, h2, h3, h4, h5, h6, h7, h8⟩
 exact ⟨v, E', h1, h2, h3, h4, hLe.trans h5, h6, hGo.trans hE h7, h8⟩
section
variable {P : Program} {W : FuncId → Bool} {ops : Array Oper} {os : List Oper} {fr : Nat → AV} {h : Nat → Blk} {nx : Nat} {K : St → Prop} {d t : Nat} {p : String} {af : Array Edge}
theorem CallOk.inOk {g : FuncId} {sargs : List AV} {r : AV} (hc : CallOk P g sargs r []) (hp : AV.pureL sargs = true) (hr : r.pure = true) : InOk P ⟨fr, h, nx⟩ g sargs r ⟨fr, h, nx⟩ := by
 have he : eatH (outH h [] []) [] = h := by funext i; simp [eatH, outH]
 have : CallStep P ⟨fr, h, nx⟩ g sargs r ⟨fr, h, nx⟩ := ⟨sargs.map fun _ => .snap, sargs, [], [], [], r, [], Ck hp, hc, zS, zS, .inl rfl, .inl rfl, by
  rw [BN _ _ _ hr, he]⟩
 exact this.inOk
theorem CallOk.inOkO {g : FuncId} {sargs : List AV} {T : Nat} {xs sp : List AV} {ex : Bool} (hc : CallOk P g sargs (.own T xs sp ex) []) (hp : AV.pureL sargs = true) (hr : AV.pureL xs = true) (hs : AV.pureL sp = true) :
  InOk P ⟨fr, h, nx⟩ g sargs (.ref nx (xs.length + sp.length) 0 xs.length) ⟨fr, upd h nx ⟨T, xs ++ sp, ex, true, true⟩, nx + 1⟩ := by
 have he : eatH (outH h [] []) [] = h := by funext i; simp [eatH, outH]
 have : CallStep P ⟨fr, h, nx⟩ g sargs (.ref nx (xs.length + sp.length) 0 xs.length) ⟨fr, upd h nx ⟨T, xs ++ sp, ex, true, true⟩, nx + 1⟩ :=
  ⟨sargs.map fun _ => .snap, sargs, [], [], [], .own T xs sp ex, [], Ck hp, hc, zS, zS, .inl rfl, .inl rfl, by
  simp only [matA, Am _ _ _ hr, Am _ _ _ hs, he, St.new]⟩
 exact this.inOk
theorem DB {g : FuncId} {args : Array Operand} {ts : Array TypeId} {as0 as1 : List AV} {ids : List Nat} {r : AV}
  (hc : CallOk P g as1 r []) (hg : callable P g = true) (ha : args.toList.map (evA fr) = as0) (hs : snapL (snapA ⟨fr, h, nx⟩ 8) as0 = some (as1, ids)) (hgr : ∀ i ∈ ids, (h i).gr = true) (hp : AV.pureL as1 = true) (hr : r.pure = true) (hW : W g = true)
  (hk : wpos P W ops os ⟨upd fr d r, eatH h ids, nx⟩ K) :
  wpos P W ops (⟨some d, .call { callee := .value (.func g), args := args, argTypes := ts }, t, p, af, none⟩ :: os) ⟨fr, h, nx⟩ K :=
 Ki (g := g) (first := []) (cap := []) (as0 := as0) (x := r) (h' := eatH h ids) (nx' := nx) (Gi hs hgr (hc.inOk hp hr)) rfl hg (by simpa using ha) (by intro hw; simp [isW, hW] at hw) (by intro hw; simp [isW, hW] at hw) hk
theorem Ez {g : FuncId} {args : Array Operand} {ts : Array TypeId} {as0 : List AV} {x : AV} {h' : Nat → Blk} {nx' : Nat}
  (hc : InOk P ⟨fr, h, nx⟩ g as0 x ⟨fr, h', nx'⟩) (hg : callable P g = true) (ha : args.toList.map (evA fr) = as0) (hW : W g = true ∨ h' = h ∧ nx' = nx)
  (hk : wpos P W ops os ⟨upd fr d x, h', nx'⟩ K) (hpu : W g = true ∨ AV.pureL as0 = false := by first | exact .inl rfl | exact .inr (by simp [AV.pureL, AV.pure])) :
  wpos P W ops (⟨some d, .call { callee := .value (.func g), args := args, argTypes := ts }, t, p, af, none⟩ :: os) ⟨fr, h, nx⟩ K :=
 Ki (g := g) (first := []) (cap := []) (as0 := as0) (x := x) (h' := h') (nx' := nx') hc rfl hg (by simpa using ha) (by
  intro hw
  rcases hW with h | h
  ·simp [isW, h] at hw
  ·exact h) (by
  intro hw hp
  rcases hpu with h | h
  ·simp [isW, h] at hw
  ·rw [h] at hp; cases hp) hk
end
structure Hide (p : Prop) : Prop where
 get : p
theorem Av {st : St} {d id n off len T : Nat} {r : List AV} (hlv : (st.h id).lv = true) (hn : (st.h id).xs.length = n) (ht : (st.h id).t = T) (hl : off + len ≤ n) (hxs : ((st.h id).xs.drop off).take len = r) (hp : AV.pureL r = true) :
  snapA st (d + 1) (.ref id n off len) = some (.sl T r [] false, [id]) := by
 rw [Ey, if_pos ⟨hlv, hn, hl⟩, hxs, Cj hp, ht]; rfl
theorem EX {P : Program} {fn : Func} {n0 : Nat} {fl : Bool} {t u : Tmp} {v w r s : AV} {i j : List Nat} {st : St} {e : Ex} (he : e = .ret ∨ e = .normal) (hr : fn.results.toList = [.tmp t, .tmp u]) (hv : st.fr t = v) (hw : st.fr u = w)
  (h1 : snapA st 7 v = some (r, i)) (h2 : snapA st 7 w = some (s, j)) (hi : ∀ a ∈ i ++ j, n0 ≤ a) (hnp : v.pure = false ∨ w.pure = false) :
  Post P fn n0 fl false (.tup [r, s]) [] e st := by
 refine ⟨by rcases he with rfl | rfl <;> trivial, .tup [v, w], by rw [hr]; simp [resV, resL, resA, hv, hw], i ++ j, ?_, .inl rfl⟩
 simp only [Bool.false_eq_true, if_false]
 refine ⟨?_, hi⟩
 have : snapA st (7 + 1) (.tup [v, w]) = some (.tup [r, s], i ++ j) := by
  rw [snapA]
  have hp : (AV.tup [v, w]).pure = false := by rcases hnp with h | h <;> simp [AV.pure, AV.pureL, h]
  simp [hp, snapL, h1, h2]
 exact this
attribute [go_sem] stA List.length_cons Nat.zero_add Nat.le_refl appendA winA partsA List.map_cons List.map_nil List.toList_toArray List.all_cons List.all_nil Bool.and_true Bool.true_and Nat.mul_one Nat.one_mul ne_eq not_true_eq_false not_false_eq_true
attribute [go_sem ↓] U2
section
def val (B : Nat) : List Nat → Nat
 | [] => 0
 | d :: ds => d + B * val B ds
def enc (B n : Nat) : List Nat :=
 if h : n = 0 ∨ B ≤ 1 then [] else n % B :: enc B (n / B)
termination_by n
decreasing_by exact Nat.div_lt_self zO zO
theorem AZ (B : Nat) : enc B 0 = [] := by rw [enc]; simp
theorem CX {B n : Nat} (hB : 1 < B) (hn : n ≠ 0) : enc B n = n % B :: enc B (n / B) := by rw [enc]; simp [hn]; omega
theorem Aa {B : Nat} (hB : 1 < B) (n : Nat) : val B (enc B n) = n := by
 induction n using Nat.strongRecOn with
 | _ n ih =>
  by_cases hn : n = 0
  ·subst hn; simp [AZ, val]
  ·rw [CX hB hn, val, ih _ (Nat.div_lt_self zO hB)]; exact Nat.mod_add_div n B
theorem Ad {B : Nat} (hB : 1 < B) (n : Nat) : ∀ d ∈ enc B n, d < B := by
 induction n using Nat.strongRecOn with
 | _ n ih =>
  by_cases hn : n = 0
  ·subst hn; simp [AZ]
  ·rw [CX hB hn]
   intro d hd
   rcases List.mem_cons.1 hd with rfl | hd
   ·exact Nat.mod_lt _ zO
   ·exact ih _ (Nat.div_lt_self zO hB) d hd
theorem G7 {B n : Nat} (hB : 1 < B) : enc B n = [] ↔ n = 0 := by
 constructor
 ·intro h; have := Aa hB n; rw [h] at this; simpa [val] using this.symm
 ·rintro rfl; exact AZ B
theorem At (B : Nat) (xs ys : List Nat) : val B (xs ++ ys) = val B xs + B ^ xs.length * val B ys := by
 induction xs with
 | nil => simp [val]
 | cons x xs ih => simp only [List.cons_append, val, ih, List.length_cons, Nat.pow_succ, Nat.mul_add]; rw [Nat.mul_comm (B ^ xs.length) B, Nat.mul_assoc]; omega
theorem A9 {B : Nat} {xs : List Nat} (h : ∀ d ∈ xs, d < B) : val B xs < B ^ xs.length := by
 induction xs with
 | nil => simp [val]
 | cons x xs ih =>
  simp only [List.forall_mem_cons] at h
  have := ih h.2
  simp only [val, List.length_cons, Nat.pow_succ]
  calc x + B * val B xs < B + B * val B xs := by omega
   _ = B * (val B xs + 1) := by rw [Nat.mul_add, Nat.mul_one, Nat.add_comm]
   _ ≤ B * B ^ xs.length := Nat.mul_le_mul_left _ this
   _ = B ^ xs.length * B := Nat.mul_comm ..
def trimZ (xs : List Nat) : List Nat := (xs.reverse.dropWhile (· == 0)).reverse
theorem Ws : trimZ [] = [] := rfl
theorem DX (xs : List Nat) : trimZ (xs ++ [0]) = trimZ xs := by simp [trimZ]
theorem Ds (xs : List Nat) {x : Nat} (h : x ≠ 0) : trimZ (xs ++ [x]) = xs ++ [x] := by simp [trimZ, h]
theorem Fp {B : Nat} (hB : 1 < B) : ∀ {xs : List Nat}, (∀ d ∈ xs, d < B) → (∀ x, xs.getLast? = some x → x ≠ 0) → enc B (val B xs) = xs
 | [], _, _ => by simp [val, AZ]
 | [x], h, h0 => by
  have hx : x ≠ 0 := h0 x rfl
  have hl : x < B := h x zS
  simp only [val, Nat.mul_zero, Nat.add_zero]
  rw [CX hB hx, Nat.mod_eq_of_lt hl, Nat.div_eq_of_lt hl, AZ]
 | x :: y :: zs, h, h0 => by
  have hl : x < B := h x zS
  have ih := Fp hB (xs := y :: zs) (fun d hd => h d (by simp at hd ⊢; exact .inr hd)) (fun z hz => h0 z (by simpa [List.getLast?_cons_cons] using hz))
  have hne : val B (y :: zs) ≠ 0 := fun he => by rw [he, AZ] at ih; cases ih
  have hp : 0 < val B (y :: zs) := by omega
  rw [val]
  have hpos : x + B * val B (y :: zs) ≠ 0 := by
   have : 0 < B * val B (y :: zs) := Nat.mul_pos zO hp
   omega
  rw [CX hB hpos, Nat.add_mul_mod_self_left, Nat.mod_eq_of_lt hl, Nat.add_mul_div_left _ _ zO, Nat.div_eq_of_lt hl, Nat.zero_add, ih]
theorem A1 {B : Nat} (hB : 1 < B) {xs : List Nat} (h : ∀ d ∈ xs, d < B) : trimZ xs = enc B (val B xs) := by
 induction hn : xs.length using Nat.strongRecOn generalizing xs with
 | _ n ih =>
  rcases List.eq_nil_or_concat xs with rfl | ⟨ys, y, rfl⟩
  ·simp [trimZ, val, AZ]
  ·rw [List.concat_eq_append] at *
   by_cases hy : y = 0
   ·subst hy
    rw [DX, ih ys.length (by simp at hn; omega) (fun d hd => h d (by simp [hd])) rfl, At]; simp [val]
   ·rw [Ds ys hy, Fp hB h (fun x hx => by simp at hx; omega)]
theorem Kk {B : Nat} (hB : 1 < B) (n : Nat) : ∀ x, (enc B n).getLast? = some x → x ≠ 0 := by
 induction n using Nat.strongRecOn with
 | _ n ih =>
  by_cases hn : n = 0
  ·subst hn; simp [AZ]
  ·rw [CX hB hn]
   intro x hx
   by_cases hq : n / B = 0
   ·rw [hq, AZ] at hx
    simp at hx
    have : n < B := by
     rcases Nat.div_eq_zero_iff.1 hq with h | h
     ·omega
     ·exact h
    rw [Nat.mod_eq_of_lt this] at hx; omega
   ·rw [CX hB hq, List.getLast?_cons_cons, ← CX hB hq] at hx
    exact ih _ (Nat.div_lt_self zO hB) x hx
theorem Aw {B : Nat} (hB : 1 < B) {n : Nat} : n < B ^ (enc B n).length := by
 have := A9 (Ad hB n); rwa [Aa hB] at this
theorem Af {B : Nat} (hB : 1 < B) {n k : Nat} (h : n < B ^ k) : (enc B n).length ≤ k := by
  induction k generalizing n with
  | zero => have : n = 0 := by simpa using h
            subst this; simp [AZ]
  | succ k ih =>
    by_cases hn : n = 0
    · subst hn; simp [AZ]
    · rw [CX hB hn, List.length_cons]
      have : n / B < B ^ k := by rw [Nat.div_lt_iff_lt_mul (by omega), ← Nat.pow_succ]; exact h
      have := ih this; omega
theorem HV {B : Nat} (hB : 1 < B) {n k : Nat} (h : B ^ k ≤ n) : k < (enc B n).length := by
 rcases Nat.lt_or_ge k (enc B n).length with h' | h'
 ·exact h'
 ·have h1 := Aw hB (n := n)
  have := Nat.pow_le_pow_right (show 0 < B by omega) h'
  omega
theorem SS {B : Nat} (hB : 1 < B) {a b : Nat} (h : enc B a = enc B b) : a = b := by rw [← Aa hB a, h, Aa hB]
end
theorem Px : elT Tryz.prog 83 = some 2 := by kernel_rfl
theorem XI : elT Tryz.prog 74 = some 132 := by kernel_rfl
theorem OT : elT Tryz.prog 22 = some 9 := by kernel_rfl
theorem ST : elT Tryz.prog 38 = some 85 := by kernel_rfl
theorem SU : elT Tryz.prog 47 = some 76 := by kernel_rfl
theorem SV : okT Tryz.prog 2 = true := by kernel_rfl
theorem Py : okT Tryz.prog 132 = true := by kernel_rfl
theorem Pz : okT Tryz.prog 113 = true := by kernel_rfl
theorem XJ : okT Tryz.prog 3 = true := by kernel_rfl
theorem U7 : okT Tryz.prog 4 = true := by kernel_rfl
theorem SW : okT Tryz.prog 5 = true := by kernel_rfl
theorem P0 : okT Tryz.prog 9 = true := by kernel_rfl
theorem P2 : okT Tryz.prog 83 = true := by kernel_rfl
theorem XK : okT Tryz.prog 74 = true := by kernel_rfl
theorem OU : okT Tryz.prog 22 = true := by kernel_rfl
theorem BU : okT Tryz.prog 85 = true := by kernel_rfl
theorem BA : okT Tryz.prog 76 = true := by kernel_rfl
theorem SX : aggT Tryz.prog 2 = false := by kernel_rfl
theorem P3 : aggT Tryz.prog 132 = false := by kernel_rfl
theorem P4 : aggT Tryz.prog 9 = false := by kernel_rfl
theorem U8 : aggT Tryz.prog 4 = false := by kernel_rfl
theorem P5 : aggT Tryz.prog 83 = false := by kernel_rfl
theorem XL : aggT Tryz.prog 74 = false := by kernel_rfl
theorem DY : aggT Tryz.prog 85 = true := by kernel_rfl
theorem HW : aggT Tryz.prog 76 = true := by kernel_rfl
theorem SY : (Tryz.prog.info? 2).isSome = true := by kernel_rfl
theorem P6 : (Tryz.prog.info? 132).isSome = true := by kernel_rfl
theorem P7 : (Tryz.prog.info? 9).isSome = true := by kernel_rfl
theorem U9 : (Tryz.prog.info? 85).isSome = true := by kernel_rfl
theorem VA : (Tryz.prog.info? 76).isSome = true := by kernel_rfl
theorem M6 : szT Tryz.prog 2 = 1 := by kernel_rfl
theorem Kl : szT Tryz.prog 132 = 1 := by kernel_rfl
theorem Km : szT Tryz.prog 9 = 1 := by kernel_rfl
theorem P8 : szT Tryz.prog 4 = 1 := by kernel_rfl
theorem Ko : szT Tryz.prog 83 = 1 := by kernel_rfl
theorem Uh : szT Tryz.prog 74 = 1 := by kernel_rfl
theorem CY : szT Tryz.prog 85 = 3 := by kernel_rfl
theorem EF : szT Tryz.prog 76 = 3 := by kernel_rfl
theorem SZ : byT Tryz.prog 2 = 8 := by kernel_rfl
theorem P9 : byT Tryz.prog 132 = 4 := by kernel_rfl
theorem QA : byT Tryz.prog 9 = 16 := by kernel_rfl
theorem VB : byT Tryz.prog 85 = 56 := by kernel_rfl
theorem VC : byT Tryz.prog 76 = 56 := by kernel_rfl
theorem Sa : zeroA Tryz.prog 2 = some (.int .i64 0) := by kernel_rfl
theorem QB : zeroA Tryz.prog 132 = some (.int .u32 0) := by kernel_rfl
theorem QC : zeroA Tryz.prog 9 = some (.str []) := by kernel_rfl
theorem VD : zeroA Tryz.prog 85 = some (.agg [.bool false, .nil, .nil]) := by kernel_rfl
theorem VE : zeroA Tryz.prog 76 = some (.agg [.bool false, .nil, .nil]) := by kernel_rfl
theorem QD : zokT Tryz.prog 2 = true := by kernel_rfl
theorem OV : zokT Tryz.prog 132 = true := by kernel_rfl
theorem OW : zokT Tryz.prog 9 = true := by kernel_rfl
theorem Sb : zokT Tryz.prog 85 = true := by kernel_rfl
theorem Sc : zokT Tryz.prog 76 = true := by kernel_rfl
theorem Io : strT Tryz.prog 9 = true := by kernel_rfl
theorem Sd : boolT Tryz.prog 4 = true := by kernel_rfl
theorem Se : fieldOff Tryz.prog 85 0 = some (0, 4) := by kernel_rfl
theorem Sf : fieldOff Tryz.prog 85 1 = some (1, 83) := by kernel_rfl
theorem Sg : fieldOff Tryz.prog 85 2 = some (2, 83) := by kernel_rfl
theorem Sh : fieldOff Tryz.prog 76 0 = some (0, 4) := by kernel_rfl
theorem Si : fieldOff Tryz.prog 76 1 = some (1, 74) := by kernel_rfl
theorem Sj : fieldOff Tryz.prog 76 2 = some (2, 74) := by kernel_rfl
theorem Sk : infosT Tryz.prog 85 = true := by kernel_rfl
theorem Sl : infosT Tryz.prog 76 = true := by kernel_rfl
attribute [go_sem] Px XI OT ST SU SV Py Pz XJ U7 SW P0 P2 XK OU BU BA SX P3 P4 U8 P5 XL DY HW SY P6 P7 U9 VA M6 Kl Km P8 Ko Uh CY EF SZ P9 QA VB VC Sa QB QC VD VE QD OV OW Sb Sc Io Sd Se Sf Sg Sh Si Sj Sk Sl
theorem QE {n : Int} : AV.el Tryz.prog 2 (.int .i64 n) = true := by simp [AV.el, M6, AV.cells, AV.one]
theorem OX {n : Int} : AV.el Tryz.prog 132 (.int .u32 n) = true := by simp [AV.el, Kl, AV.cells, AV.one]
theorem OY {s : List UInt8} : AV.el Tryz.prog 9 (.str s) = true := by simp [AV.el, Km, AV.cells, AV.one]
theorem QF : Tryz.prog.underlying 2 = some (.int .i64) := by kernel_rfl
theorem VF : Tryz.prog.underlying 3 = some (.int .i64) := by kernel_rfl
theorem OZ : Tryz.prog.underlying 132 = some (.int .u32) := by kernel_rfl
theorem Oa : Tryz.prog.underlying 113 = some (.int .u64) := by kernel_rfl
theorem QG : Tryz.prog.underlying 5 = some (.int .u8) := by kernel_rfl
theorem Ob : Tryz.prog.underlying 9 = some .string := by kernel_rfl
attribute [go_sem] QE OX OY QF VF OZ Oa QG Ob
theorem Sm : u32T Tryz.prog 2 = false := by kernel_rfl
theorem QH : u32T Tryz.prog 132 = true := by kernel_rfl
theorem QI : u32T Tryz.prog 9 = false := by kernel_rfl
theorem VG : u32T Tryz.prog 85 = false := by kernel_rfl
theorem VH : u32T Tryz.prog 76 = false := by kernel_rfl
attribute [go_sem] Sm QH QI VG VH
def natA (k : IntKind) (xs : List Nat) : List AV := xs.map fun n : Nat => .int k (n : Int)
theorem AF (k : IntKind) (xs : List Nat) : (natA k xs).length = xs.length := by simp [natA]
@[simp] theorem Ae (k : IntKind) (xs : List Nat) : AV.pureL (natA k xs) = true := by induction xs <;> simp_all [natA, AV.pureL, AV.pure]
theorem Ay (k : IntKind) (xs : List Nat) (n : Nat) : (natA k xs).take n = natA k (xs.take n) := by simp [natA, List.map_take]
theorem Ip (k : IntKind) (xs : List Nat) (n : Nat) : (natA k xs).drop n = natA k (xs.drop n) := by simp [natA, List.map_drop]
theorem Bu (k : IntKind) (xs ys : List Nat) : natA k xs ++ natA k ys = natA k (xs ++ ys) := by simp [natA]
theorem Bv {k : IntKind} {xs : List Nat} {i n : Nat} (h : xs[i]? = some n) : (natA k xs)[i]? = some (.int k n) := by simp [natA, h]
attribute [go_sem] AF
def B9 : Nat := 1000000000
theorem AR : 1 < B9 := by decide
def natS (n : Nat) : AV := .sl 2 (natA .i64 (enc B9 n)) [] false
theorem HX (hm : Tryz.prog.follows .mixedOrders = true) (xs : List Nat) (hlen : xs.length < 9223372036854775808) : CallOk Tryz.prog 110 [.sl 2 (natA .i64 xs) [] false] (.sl 2 (natA .i64 (trimZ xs)) [] false) [] := by
 refine AB (W := fun _ => false) false hm Tryz.func110 rfl zK zL (AC ?_)
 generalize hQ : Post Tryz.prog Tryz.f110 _ _ _ _ _ = Q
 simp only [stIn, matL, matA, st00, List.getD]
 simp only [go_sem, ↓L7, ↓Dg]
 refine AM (fun (ys : List Nat) st => st.fr 0 = .sl 2 (natA .i64 ys) [] false ∧ ys.length < 9223372036854775808 ∧ trimZ ys = trimZ xs) (fun ys => ys.length) xs ⟨rfl, hlen, rfl⟩ ?_
 rintro ys ⟨fr, h, nx⟩ ⟨h0, h1, h2⟩ J hJ
 simp only at h0
 rcases List.eq_nil_or_concat ys with rfl | ⟨zs, z, rfl⟩
 ·simp (disch := omega) only [go_sem, h0]
  rw [← hQ]
  exact AG (.inl rfl) rfl (by simp [AA, ← h2]; rfl) (by simp [AV.pure, Ae, AV.pureL])
 ·rw [List.concat_eq_append] at *
  simp only [List.length_append, List.length_cons, List.length_nil] at h1
  have hg : (natA .i64 (zs ++ [z]))[((zs.length : Int) + 1 - 1).toNat]? = some (.int .i64 z) := Bv zS
  have hl : (zs ++ [z]).length = zs.length + 1 := by simp
  by_cases hz : z = 0
  ·simp (disch := omega) only [go_sem, h0, hg, hl, Int.natCast_succ]
   refine hJ zs _ ⟨?_, zO, by rw [← h2, hz, DX]⟩ zS
   simp [AA, Ay]
  ·simp (disch := omega) only [go_sem, h0, hg, hl, Int.natCast_succ]
   rw [← hQ]
   refine AG (.inl rfl) rfl (by simp [AA, ← h2, Ds _ hz]) (by simp [AV.pure, Ae, AV.pureL])
section
theorem EG {B : Nat} (hB : 1 < B) {a b : Nat} (h : (enc B a).length < (enc B b).length) : a < b := by
 rcases Nat.lt_or_ge a b with h' | h'
 ·exact h'
 ·have h1 := Aw hB (n := a)
  have := Af hB (n := b) (k := (enc B a).length) zO
  omega
theorem Cn (B : Nat) (xs : List Nat) (i : Nat) : val B xs = val B (xs.take i) + B ^ (xs.take i).length * val B (xs.drop i) := by
 rw [← At, List.take_append_drop]
theorem Ak {α : Type} {xs : List α} {i : Nat} {x : α} (h : xs[i]? = some x) : xs.drop i = x :: xs.drop (i + 1) := by
 obtain ⟨hlt, rfl⟩ := List.getElem?_eq_some_iff.1 h
 exact List.drop_eq_getElem_cons hlt
theorem Kp {B : Nat} {xs ys : List Nat} {i x y : Nat} (hl : xs.length = ys.length) (hx : ∀ d ∈ xs, d < B) (hi : xs[i]? = some x) (hj : ys[i]? = some y) (hd : xs.drop (i + 1) = ys.drop (i + 1)) (h : x < y) : val B xs < val B ys := by
 have hlt := (List.getElem?_eq_some_iff.1 hi).1
 rw [Cn B xs i, Cn B ys i, Ak hi, Ak hj, hd]
 have hlx : (xs.take i).length = i := by simp; omega
 have hly : (ys.take i).length = i := by simp; omega
 rw [hlx, hly, val, val]
 have h1 : val B (xs.take i) < B ^ i := by
  have := A9 (B := B) (xs := xs.take i) (fun d hd => hx d (List.mem_of_mem_take hd)); rwa [hlx] at this
 have h2 : B ^ i * (x + B * val B (ys.drop (i + 1)) + 1) ≤ B ^ i * (y + B * val B (ys.drop (i + 1))) := Nat.mul_le_mul_left _ zO
 rw [Nat.mul_add, Nat.mul_one] at h2
 omega
def cmpI (a b : Nat) : Int := if a < b then -1 else if b < a then 1 else 0
theorem BS {a b : Nat} (h : a < b) : cmpI a b = -1 := by simp [cmpI, h]
theorem Bx {a b : Nat} (h : b < a) : cmpI a b = 1 := by simp [cmpI, h]; omega
theorem By (a : Nat) : cmpI a a = 0 := by simp [cmpI]
theorem HY {B : Nat} (hB : 1 < B) {a b : Nat} (h : (enc B a).length ≠ (enc B b).length) : cmpI a b = if (enc B a).length < (enc B b).length then -1 else 1 := by
 split
 ·rename_i h'; exact BS (EG hB h')
 ·rename_i h'; exact Bx (EG hB zO)
theorem M7 {B : Nat} (hB : 1 < B) {a b i x y : Nat} (hl : (enc B a).length = (enc B b).length) (hi : (enc B a)[i]? = some x) (hj : (enc B b)[i]? = some y) (hd : (enc B a).drop (i + 1) = (enc B b).drop (i + 1)) (h : x ≠ y) : cmpI a b = if x < y then -1 else 1 := by
 split
 ·rename_i h'
  have := Kp hl (Ad hB a) hi hj hd h'
  rw [Aa hB, Aa hB] at this; exact BS this
 ·rename_i h'
  have := Kp hl.symm (Ad hB b) hj hi hd.symm zO
  rw [Aa hB, Aa hB] at this; exact Bx this
theorem M8 {B : Nat} (hB : 1 < B) {a b : Nat} (hd : enc B a = enc B b) : cmpI a b = 0 := by rw [SS hB hd, By]
end
theorem Jd (hm : Tryz.prog.follows .mixedOrders = true) (xs : List Nat) (i : Nat) (hlen : xs.length < 9223372036854775808) : CallOk Tryz.prog 114 [.sl 2 (natA .i64 xs) [] false, .int .i64 i] (.int .i64 (xs.getD i 0 : Nat)) [] := by
 refine AB (W := fun _ => false) false hm Tryz.func114 rfl zK zL (AC ?_)
 generalize hQ : Post Tryz.prog Tryz.f114 _ _ _ _ _ = Q
 simp only [stIn, matL, matA, st00]
 by_cases hi : i < xs.length
 ·have hg : (natA .i64 xs)[(i : Int).toNat]? = some (.int .i64 (xs.getD i 0 : Nat)) := Bv (by simp [List.getD, hi])
  simp (disch := omega) only [go_sem, List.getD_cons_zero, List.getD_cons_succ, hg]
  rw [← hQ]
  exact AG (.inl rfl) rfl zU rfl
 ·have hg : xs.getD i 0 = 0 := by rw [List.getD_eq_getElem?_getD, List.getElem?_eq_none zO]; rfl
  simp (disch := omega) only [go_sem, List.getD_cons_zero, List.getD_cons_succ]
  rw [← hQ, hg]
  exact AG (.inl rfl) rfl zU rfl
theorem FJ (hm : Tryz.prog.follows .mixedOrders = true) (a b : Nat) (ha : (enc B9 a).length < 9223372036854775808) (hb : (enc B9 b).length < 9223372036854775808) : CallOk Tryz.prog 84 [natS a, natS b] (.int .i64 (cmpI a b)) [] := by
 refine AB (W := fun _ => false) false hm Tryz.func84 rfl zK zL (AC ?_)
 generalize hQ : Post Tryz.prog Tryz.f84 _ _ _ _ _ = Q
 simp only [stIn, matL, matA, st00, natS]
 by_cases hl : (enc B9 a).length = (enc B9 b).length
 ·simp (disch := omega) only [go_sem, List.getD_cons_zero, List.getD_cons_succ]
  refine AM (fun (i : Nat) st => st.fr 0 = natS a ∧ st.fr 1 = natS b ∧ st.fr 5 = .int .i64 ((i : Int) - 1) ∧ i ≤ (enc B9 a).length ∧ (enc B9 a).drop i = (enc B9 b).drop i) (fun i => i) (enc B9 a).length
   ⟨by simp [AA, natS], by simp [AA, natS], zU, Nat.le_refl _, by simp [hl]⟩ ?_
  rintro i ⟨fr, h, nx⟩ ⟨h0, h1, h5, hi, hd⟩ J hJ
  simp only [natS] at h0 h1 h5
  rcases Nat.eq_zero_or_pos i with rfl | hp
  ·simp (disch := omega) only [go_sem, h0, h1, h5]
   rw [← hQ]
   exact AG (.inl rfl) rfl (by simp [AA]; exact (M8 AR (by simpa using hd)).symm) rfl
  ·obtain ⟨j, rfl⟩ : ∃ j, i = j + 1 := ⟨i - 1, zO⟩
   obtain ⟨x, hx⟩ : ∃ x, (enc B9 a)[j]? = some x := ⟨_, List.getElem?_eq_getElem zO⟩
   obtain ⟨y, hy⟩ : ∃ y, (enc B9 b)[j]? = some y := ⟨_, List.getElem?_eq_getElem zO⟩
   have e1 : ((j + 1 : Nat) : Int) - 1 = j := by omega
   rw [e1] at h5
   have gx : (natA .i64 (enc B9 a))[(j : Int).toNat]? = some (.int .i64 x) := Bv (by simpa using hx)
   have gy : (natA .i64 (enc B9 b))[(j : Int).toNat]? = some (.int .i64 y) := Bv (by simpa using hy)
   by_cases hxy : x = y
   ·simp (disch := omega) only [go_sem, h0, h1, h5, gx, gy]
    refine hJ j _ ⟨by simp [AA, h0, natS], by simp [AA, h1, natS], zU, zO, ?_⟩ zO
    rw [Ak hx, Ak hy, hd, hxy]
   ·have hc := M7 AR hl hx hy hd hxy
    by_cases hlt : x < y
    ·simp (disch := omega) only [go_sem, h0, h1, h5, gx, gy]
     rw [← hQ]
     exact AG (.inl rfl) rfl (by simp [AA, hc, hlt]) rfl
    ·simp (disch := omega) only [go_sem, h0, h1, h5, gx, gy]
     rw [← hQ]
     exact AG (.inl rfl) rfl (by simp [AA, hc, hlt]) rfl
 ·have hc := HY AR hl
  by_cases hlt : (enc B9 a).length < (enc B9 b).length
  ·simp (disch := omega) only [go_sem, List.getD_cons_zero, List.getD_cons_succ]
   rw [← hQ]
   exact AG (.inl rfl) rfl (by simp [AA, hc, hlt]) rfl
  ·simp (disch := omega) only [go_sem, List.getD_cons_zero, List.getD_cons_succ]
   rw [← hQ]
   exact AG (.inl rfl) rfl (by simp [AA, hc, hlt]) rfl
theorem GK : callable Tryz.prog 110 = true := by kernel_rfl
theorem M9 : callable Tryz.prog 114 = true := by kernel_rfl
theorem EY : callable Tryz.prog 84 = true := by kernel_rfl
theorem QJ (hm : Tryz.prog.follows .mixedOrders = true) {fr : Nat → AV} {h : Nat → Blk} {nx id n : Nat} {xs : List Nat} (hlv : (h id).lv = true) (hn : (h id).xs.length = n) (ht : (h id).t = 2) (hlen : n < 9223372036854775808)
  (hl : xs.length ≤ n) (hxs : (h id).xs.take xs.length = natA .i64 xs) : InOk Tryz.prog ⟨fr, h, nx⟩ 110 [.ref id n 0 xs.length] (.ref id n 0 (trimZ xs).length) ⟨fr, h, nx⟩ := by
 refine Bd (W := fun _ => false) hm Tryz.func110 rfl zK zL (AC ?_)
 generalize hQ : PostIn Tryz.prog Tryz.f110 _ _ _ = Q
 simp (disch := omega) only [go_sem, List.getD_cons_zero, List.getD_cons_succ]
 refine AM (fun (ys : List Nat) st => st.fr 0 = .ref id n 0 ys.length ∧ st.h = h ∧ st.nx = nx ∧ ys.length ≤ n ∧ (h id).xs.take ys.length = natA .i64 ys ∧ trimZ ys = trimZ xs) (fun ys => ys.length) xs ⟨rfl, rfl, rfl, hl, hxs, rfl⟩ ?_
 rintro ys ⟨fr, h1, nx1⟩ ⟨h0, e1, e2, h3, h4, h5⟩ J hJ
 simp only at h0 e1 e2
 subst e1 e2
 rcases List.eq_nil_or_concat ys with rfl | ⟨zs, z, rfl⟩
 ·simp (disch := omega) only [go_sem, h0, hlv, hn]
  rw [← hQ]
  exact Bt (.inl rfl) rfl (by simp [AA, ← h5]; rfl) rfl rfl
 ·rw [List.concat_eq_append] at *
  have hl : (zs ++ [z]).length = zs.length + 1 := by simp
  rw [hl] at h0 h3 h4
  have hg : (h1 id).xs[((zs.length : Int) + 1 - 1).toNat]? = some (.int .i64 z) := by
   have e : ((zs.length : Int) + 1 - 1).toNat = zs.length := by omega
   have := congrArg (·[zs.length]?) h4
   simp only [List.getElem?_take] at this
   rw [if_pos zO] at this
   rw [e, this]; exact Bv zS
  have h4' : (h1 id).xs.take zs.length = natA .i64 zs := by
   have := congrArg (List.take zs.length) h4
   rw [List.take_take, Nat.min_eq_left zO, Ay] at this
   simpa using this
  by_cases hz : z = 0
  ·simp (disch := omega) only [go_sem, h0, hg, Int.natCast_succ, hlv, hn, ht]
   refine hJ zs _ ⟨?_, rfl, rfl, zO, h4', by rw [← h5, hz, DX]⟩ zS
   simp [AA]
  ·simp (disch := omega) only [go_sem, h0, hg, Int.natCast_succ, hlv, hn, ht]
   rw [← hQ]
   exact Bt (.inl rfl) rfl (by simp [AA, ← h5, Ds _ hz]) rfl rfl
section
theorem Iq (a b : Nat) : (a : Int).tdiv b = ((a / b : Nat) : Int) := by rw [Int.tdiv_eq_ediv_of_nonneg zO]; exact (Int.natCast_ediv a b).symm
theorem Kq (a b : Nat) : (a : Int).tmod b = ((a % b : Nat) : Int) := by rw [Int.tmod_eq_emod_of_nonneg zO]; exact (Int.natCast_emod a b).symm
theorem Ir {B d r x q : Nat} (hd : 0 < d) (hr : r < d) (hx : x < B) : (r * B + x) / d < B ∧ (r * B + x) % d < d ∧ ((r * B + x) / d + B * q) * d + (r * B + x) % d = x + B * (q * d + r) := by
 refine ⟨?_, Nat.mod_lt _ hd, ?_⟩
 ·rw [Nat.div_lt_iff_lt_mul hd]
  have : (r + 1) * B ≤ d * B := Nat.mul_le_mul_right _ hr
  rw [Nat.add_mul] at this
  rw [Nat.mul_comm B d]; omega
 ·have h := Nat.div_add_mod (r * B + x) d
  rw [Nat.add_mul, Nat.mul_add, Nat.mul_comm ((r * B + x) / d) d]
  have e : B * q * d = B * (q * d) := Nat.mul_assoc ..
  rw [e, Nat.mul_comm B r]; omega
theorem Kr {a d q r : Nat} (hd : 0 < d) (hr : r < d) (h : q * d + r = a) : q = a / d ∧ r = a % d := by
 subst h
 constructor
 ·rw [Nat.mul_comm, Nat.mul_add_div hd, Nat.div_eq_of_lt hr, Nat.add_zero]
 ·rw [Nat.mul_comm, Nat.mul_add_mod, Nat.mod_eq_of_lt hr]
theorem Bl {i : Nat} {v : Nat} (qs : List Nat) : (List.replicate (i + 1) 0 ++ qs).set i v = List.replicate i 0 ++ (v :: qs) := by
 rw [List.replicate_succ', List.append_assoc, List.set_append_right _ _ zS]
 simp
theorem L8 {B : Nat} (hB : 1 < B) {xs : List Nat} (h : ∀ d ∈ xs, d < B) (hl : xs = [] ∨ B ^ (xs.length - 1) ≤ val B xs) : enc B (val B xs) = xs := by
 refine Fp hB h fun x hx hz => ?_
 rcases List.eq_nil_or_concat xs with rfl | ⟨ys, y, rfl⟩
 ·simp at hx
 ·rw [List.concat_eq_append] at *
  simp at hx
  subst hx; subst hz
  rcases hl with hl | hl
  ·simp at hl
  ·rw [At] at hl
   simp [val] at hl
   have := A9 (B := B) (xs := ys) (fun d hd => h d (by simp [hd]))
   omega
theorem HZ {B : Nat} (hB : 1 < B) {n : Nat} (hn : n ≠ 0) : B ^ ((enc B n).length - 1) ≤ n := by
 rcases Nat.lt_or_ge n (B ^ ((enc B n).length - 1)) with h | h
 ·have := Af hB h
  have h2 : (enc B n).length ≠ 0 := fun h0 => hn ((G7 hB).1 (List.length_eq_zero_iff.1 h0))
  omega
 ·exact h
theorem Oc {B d c x : Nat} (hd : 0 < d) (hc : c < d) (hx : x < B) : (x * d + c) / B < d ∧ (x * d + c) % B < B ∧ (x * d + c) % B + B * ((x * d + c) / B) = x * d + c := by
 have hB : 0 < B := by omega
 refine ⟨?_, Nat.mod_lt _ hB, Nat.mod_add_div _ _⟩
 rw [Nat.div_lt_iff_lt_mul hB]
 have : (x + 1) * d ≤ B * d := Nat.mul_le_mul_right _ hx
 rw [Nat.add_mul, Nat.mul_comm B d] at this; omega
end
theorem QK {k : IntKind} {xs : List Nat} {i n : Nat} : (natA k xs).set i (.int k n) = natA k (xs.set i n) := by simp [natA, List.map_set]
theorem Ks {k : IntKind} {n : Nat} : List.replicate n (AV.int k 0) = natA k (List.replicate n 0) := by simp [natA]
theorem Od (xs : List Nat) : (trimZ xs).length ≤ xs.length := by
 simp only [trimZ, List.length_reverse]
 have := (List.dropWhile_suffix (l := xs.reverse) (· == 0)).length_le
 simpa using this
theorem Is (xs : List Nat) : xs.take (trimZ xs).length = trimZ xs := by
 have h : trimZ xs <+: xs := by
  have := (List.dropWhile_suffix (l := xs.reverse) (· == 0))
  have := List.reverse_prefix.2 this
  simpa [trimZ] using this
 exact (List.prefix_iff_eq_take.1 h).symm
theorem Ha (hm : Tryz.prog.follows .mixedOrders = true) (a d : Nat) (ha : (enc B9 a).length ≤ 1099511627776) (hd : 0 < d) (hd2 : d ≤ 1000000000) :
  CallOk Tryz.prog 129 [natS a, .int .i64 d] (.tup [natS (a / d), .int .i64 ((a % d : Nat) : Int)]) [] := by
 refine AB (W := fun _ => false) false hm Tryz.func129 rfl zK zL (AC ?_)
 generalize hQ : Post Tryz.prog Tryz.f129 _ _ _ _ _ = Q
 obtain ⟨n, hn⟩ : ∃ n, (enc B9 a).length = n := ⟨_, rfl⟩
 simp only [stIn, matL, matA, st00, natS]
 simp (disch := omega) only [go_sem, List.getD_cons_zero, List.getD_cons_succ, hn, reach, Int.toNat_natCast]
 refine AM (fun (p : Nat × Nat × List Nat) st => st.fr 0 = natS a ∧ st.fr 1 = .int .i64 d ∧ st.fr 6 = .ref 0 n 0 n ∧ st.fr 7 = .int .i64 p.2.1 ∧ st.fr 8 = .int .i64 ((p.1 : Int) - 1) ∧
   st.h 0 = ⟨2, natA .i64 (List.replicate p.1 0 ++ p.2.2), true, true, true⟩ ∧ p.1 + p.2.2.length = n ∧ p.2.1 < d ∧ (∀ q ∈ p.2.2, q < B9) ∧ val B9 p.2.2 * d + p.2.1 = val B9 ((enc B9 a).drop p.1)) (fun p => p.1) (n, 0, [])
  ⟨by simp [AA, natS], zU, zU, zU, zU, by simp [AA, Ks], zS, hd, zS, by simp [← hn, val]⟩ ?_
 rintro ⟨i, r, qs⟩ ⟨fr, h, nx⟩ ⟨h0, h1, h6, h7, h8, hb, hlen, hr, hq, hv⟩ J hJ
 simp only [natS] at h0 h1 h6 h7 h8 hb hlen hr hq hv
 rcases Nat.eq_zero_or_pos i with rfl | hp
 ·simp (disch := omega) only [go_sem, h0, h1, h6, h7, h8]
  simp only [List.replicate_zero, List.nil_append, Nat.zero_add, List.drop_zero] at hb hlen hv
  rw [Aa AR] at hv
  obtain ⟨e1, e2⟩ := Kr hd hr hv
  have htr := A1 AR hq
  have hlt := Od qs
  have htt := Is qs
  refine Ez (QJ hm (xs := qs) (id := 0) (n := n) (by rw [hb]) (by rw [hb]; simpa [AF] using hlen) (by rw [hb]) zO zO (by rw [hb]; simp [Ay])) GK (by simp [evA, AA, h6, hlen]) (.inr ⟨rfl, rfl⟩) ?_
  simp (disch := omega) only [go_sem, h0, h1, h6, h7, h8]
  rw [← hQ, ← e2]
  refine EX (v := .ref 0 n 0 (trimZ qs).length) (w := .int .i64 r) (.inl rfl) rfl zU zU (Av (by simp [hb]) (by simp [hb, AF, hlen]) (by simp [hb]) zO (by simp only [hb, List.drop_zero, Ay, htt]; rw [htr, e1]) (Ae _ _)) (AL rfl) (fun _ _ => Nat.zero_le _) (.inl rfl)
 ·obtain ⟨j, rfl⟩ : ∃ j, i = j + 1 := ⟨i - 1, zO⟩
  obtain ⟨x, hx⟩ : ∃ x, (enc B9 a)[j]? = some x := ⟨_, List.getElem?_eq_getElem zO⟩
  have hxB : x < B9 := Ad AR a x (List.mem_of_getElem? hx)
  have e1 : ((j + 1 : Nat) : Int) - 1 = j := by omega
  rw [e1] at h8
  have gx : (natA .i64 (enc B9 a))[(j : Int).toNat]? = some (.int .i64 x) := Bv (by simpa using hx)
  have hlb : (natA .i64 (List.replicate (j + 1) 0 ++ qs)).length = n := by simp [AF]; omega
  have gz : (natA .i64 (List.replicate (j + 1) 0 ++ qs))[(j : Int).toNat]? = some (.int .i64 0) := Bv (n := 0) (by simp [List.getElem?_append_left])
  obtain ⟨q', hq'⟩ : ∃ q', (r * B9 + x) / d = q' := ⟨_, rfl⟩
  obtain ⟨r', hr'⟩ : ∃ r', (r * B9 + x) % d = r' := ⟨_, rfl⟩
  obtain ⟨s1, s2, s3⟩ := Ir (q := val B9 qs) hd hr hxB
  have hB : B9 = 1000000000 := rfl
  rw [hq'] at s1 s3
  rw [hr'] at s2 s3
  have hrB : r * 1000000000 ≤ 1000000000 * 1000000000 := Nat.mul_le_mul_right _ zO
  have w1 : (r : Int) * 1000000000 = ((r * 1000000000 : Nat) : Int) := by omega
  have w2 : ((r * 1000000000 : Nat) : Int) + (x : Int) = ((r * B9 + x : Nat) : Int) := by rw [hB]; omega
  simp (disch := omega) only [go_sem, h0, h1, h6, h7, h8, gx, hn, w1, w2, hb, hlb, Iq, Kq, gz, QK, hq', hr']
  refine hJ (j, r', q' :: qs) _ ⟨by simp [AA, h0, natS], by simp [AA, h1], by simp [AA, h6], zU, zU, ?_, zW, s2, ?_, ?_⟩ zS
  ·simp only [AA, if_true, Int.toNat_natCast, Bl]
  ·simp only [List.forall_mem_cons]; exact ⟨s1, hq⟩
  ·simp only [val, Ak hx]; rw [s3, hv]
theorem Bm {k : IntKind} {xs : List Nat} {n : Nat} : natA k xs ++ [AV.int k n] = natA k (xs ++ [n]) := by simp [natA]
attribute [go_sem] Bm
theorem NA (hm : Tryz.prog.follows .mixedOrders = true) (n : Nat) (hn : n < 9223372036854775808) : CallOk Tryz.prog 111 [.int .i64 n] (natS n) [] := by
 refine AB (W := fun _ => false) false hm Tryz.func111 rfl zK zL (AC ?_)
 generalize hQ : Post Tryz.prog Tryz.f111 _ _ _ _ _ = Q
 simp only [stIn, matL, matA, st00]
 simp (disch := omega) only [go_sem, List.getD_cons_zero, List.getD_cons_succ]
 have hlen : (enc B9 n).length ≤ 3 := Af AR (by simp only [B9]; omega)
 refine AM (fun (p : Nat × List Nat) st => st.fr 0 = .int .i64 p.1 ∧ st.fr 3 = .ref 0 p.2.length 0 p.2.length ∧ (∃ ex, st.h 0 = ⟨2, natA .i64 p.2, ex, true, true⟩) ∧ p.2 ++ enc B9 p.1 = enc B9 n ∧ p.1 ≤ n) (fun p => p.1) (n, [])
  ⟨zU, zU, ⟨true, by simp [AA, natA]⟩, zS, Nat.le_refl _⟩ ?_
 rintro ⟨m, ds⟩ ⟨fr, h, nx⟩ ⟨h0, h3, ⟨ex, hb⟩, he, hmn⟩ J hJ
 simp only at h0 h3 hb he hmn
 have hdl : ds.length ≤ 3 := by have := congrArg List.length he; rw [List.length_append] at this; omega
 rcases Nat.eq_zero_or_pos m with rfl | hp
 ·simp (disch := omega) only [go_sem, h0, h3]
  rw [AZ, List.append_nil] at he
  rw [← hQ]
  exact Bs (off := 0) (len := ds.length) (n := ds.length) (id := 0) (.inl rfl) rfl zU (by simp [hb]) (by simp [hb, AF]) (by simp [hb]) zO (Nat.zero_le _) (by simp only [hb, List.drop_zero, Ay, List.take_length, he]) (Ae _ _)
 ·have w1 : (m : Int).tmod 1000000000 = ((m % 1000000000 : Nat) : Int) := Kq m 1000000000
  have w2 : (m : Int).tdiv 1000000000 = ((m / 1000000000 : Nat) : Int) := Iq m 1000000000
  simp (disch := omega) only [go_sem, h0, h3, w1, w2, hb, reach]
  rw [CX AR zO, show m % B9 = m % 1000000000 from rfl, show m / B9 = m / 1000000000 from rfl] at he
  refine hJ (m / 1000000000, ds ++ [m % 1000000000]) _ ⟨zU, zU, ⟨false, zU⟩, by simpa using he, zT⟩ zT
theorem QL : callable Tryz.prog 111 = true := by kernel_rfl
theorem Hb : callable Tryz.prog 129 = true := by kernel_rfl
theorem Hc : callable Tryz.prog 130 = true := by kernel_rfl
theorem Cv : callable Tryz.prog 128 = true := by kernel_rfl
def smallS (a : Nat) : AV := if a < 1000000000000000000 then .tup [.int .i64 a, .bool true] else .tup [.int .i64 0, .bool false]
theorem NB (hm : Tryz.prog.follows .mixedOrders = true) (a : Nat) (ha : (enc B9 a).length ≤ 1099511627776) : CallOk Tryz.prog 128 [natS a] (smallS a) [] := by
 refine AB (W := fun _ => false) false hm Tryz.func128 rfl zK zL (AC ?_)
 generalize hQ : Post Tryz.prog Tryz.f128 _ _ _ _ _ = Q
 simp only [stIn, matL, matA, st00, natS]
 by_cases hs : (enc B9 a).length ≤ 2
 ·simp (disch := omega) only [go_sem, List.getD_cons_zero, List.getD_cons_succ]
  refine AD (Jd hm (enc B9 a) 0 zO) M9 zE (by simp [AV.pure, AV.pureL, Ae]) rfl ?_
  simp (disch := omega) only [go_sem, List.getD_cons_zero, List.getD_cons_succ]
  refine AD (Jd hm (enc B9 a) 1 zO) M9 zE (by simp [AV.pure, AV.pureL, Ae]) rfl ?_
  obtain ⟨x, hx⟩ : ∃ x, (enc B9 a).getD 0 0 = x := ⟨_, rfl⟩
  obtain ⟨y, hy⟩ : ∃ y, (enc B9 a).getD 1 0 = y := ⟨_, rfl⟩
  have hxy : x < B9 ∧ y < B9 ∧ x + B9 * y = a := by
   have h1 := Ad AR a
   have h2 := Aa AR a
   cases he : enc B9 a with
   | nil => rw [he] at h2 hx hy; simp [val] at h2 hx hy; subst hx hy h2; simp [B9]
   | cons u us =>
    cases us with
    | nil => rw [he] at h1 h2 hx hy; simp [val] at h1 h2 hx hy; subst hx hy h2; simp [B9] at *; omega
    | cons v vs =>
     have : vs = [] := by rw [he] at hs; simp at hs; exact hs
     subst this
     rw [he] at h1 h2 hx hy; simp [val] at h1 h2 hx hy; subst hx hy h2; exact ⟨h1.1, h1.2, rfl⟩
  obtain ⟨g1, g2, g3⟩ := hxy
  have hB : B9 = 1000000000 := rfl
  rw [hB] at g1 g2 g3
  rw [hx, hy]
  have w2 : (x : Int) + 1000000000 * (y : Int) = (a : Int) := by omega
  simp (disch := omega) only [go_sem, w2]
  rw [← hQ]
  have : smallS a = .tup [.int .i64 a, .bool true] := by simp only [smallS]; rw [if_pos zO]
  rw [this]
  exact Ag (.inl rfl) rfl zU zU rfl rfl
 ·simp (disch := omega) only [go_sem, List.getD_cons_zero, List.getD_cons_succ]
  have hbig : ¬ a < 1000000000000000000 := fun h => hs (Af AR (by simpa [B9] using h))
  have : smallS a = .tup [.int .i64 0, .bool false] := by simp only [smallS]; rw [if_neg hbig]
  rw [← hQ, this]
  exact Ag (.inl rfl) rfl zU zU rfl rfl
section
section
variable {B K V w top next x third v0 w0 d rest : Nat}
theorem Sn (hV : V = (top * B + next) * K + v0) (hw : w = (x * B + third) * K + w0) (hw0 : w0 < K) (hx : d * top + rest = x) (hc : rest * B + third < d * next) : w < d * V := by
 have h1 : x * B + third + 1 ≤ d * (top * B + next) := by
  rw [Nat.mul_add, ← hx, Nat.add_mul, Nat.mul_assoc]; omega
 have h2 : (x * B + third + 1) * K ≤ d * (top * B + next) * K := Nat.mul_le_mul_right _ h1
 rw [Nat.add_mul (x * B + third) 1 K, Nat.one_mul] at h2
 have h3 : d * V = d * (top * B + next) * K + d * v0 := by rw [hV, Nat.mul_add, Nat.mul_assoc]
 omega
theorem QM (hV : V = (top * B + next) * K + v0) (hw : w = (x * B + third) * K + w0) (hv0 : v0 < K) (hx : d * top + rest = x) (hc : d * next ≤ rest * B + third) (hd : d ≤ B) (ht : 0 < top) : d * V ≤ w + V := by
 have h1 : d * (top * B + next) ≤ x * B + third := by
  rw [Nat.mul_add, ← hx, Nat.add_mul, Nat.mul_assoc]; omega
 have h2 : d * (top * B + next) * K ≤ (x * B + third) * K := Nat.mul_le_mul_right _ h1
 have h3 : d * V = d * (top * B + next) * K + d * v0 := by rw [hV, Nat.mul_add, Nat.mul_assoc]
 have h4 : d * v0 ≤ B * K := Nat.mul_le_mul hd (Nat.le_of_lt hv0)
 have h5 : B * K ≤ V := by
  have : B * K ≤ (top * B + next) * K := Nat.mul_le_mul_right _ (by have := Nat.mul_le_mul_right B ht; omega)
  omega
 omega
theorem NC {q : Nat} (hV : 0 < V) (h1 : q * V ≤ w) (h2 : w < q * V + V) : q = w / V := by
 have : w / V = q := by
  rw [Nat.div_eq_iff hV]; omega
 exact this.symm
theorem Oe (hV : V = (top * B + next) * K + v0) (hw : w = (x * B + third) * K + w0) (hv0 : v0 < K) (hn : next < B) (hB : 0 < B) (hlt : w < V * B) (hb : B ≤ 2 * top) : x / top ≤ B + 1 := by
 have ht : 0 < top := by omega
 have h1 : (x * B + third) * K < ((top * B + next) * B + B) * K := by
  have e : V * B = (top * B + next) * B * K + v0 * B := by rw [hV, Nat.add_mul, Nat.mul_right_comm]
  have : v0 * B ≤ K * B := Nat.mul_le_mul_right _ (Nat.le_of_lt hv0)
  rw [Nat.add_mul ((top * B + next) * B), Nat.mul_comm B K]; omega
 have h2 : x * B + third < (top * B + next) * B + B := Nat.lt_of_mul_lt_mul_right h1
 have h3 : x < top * B + next + 1 := by
  have : x * B < (top * B + next + 1) * B := by rw [Nat.add_mul (top * B + next) 1, Nat.one_mul]; omega
  exact Nat.lt_of_mul_lt_mul_right this
 rw [← Nat.lt_succ_iff, Nat.div_lt_iff_lt_mul ht]
 have : (B + 1).succ * top = top * B + 2 * top := by rw [Nat.succ_eq_add_one, Nat.add_mul, Nat.add_mul, Nat.mul_comm B top]; omega
 omega
end
end
section
theorem Je {B k : Nat} {xs : List Nat} (h : xs.length ≤ k) : val B (xs.drop k) = 0 := by rw [List.drop_eq_nil_of_le h]; rfl
theorem QN {B : Nat} (hB : 1 < B) {xs : List Nat} (h : ∀ d ∈ xs, d < B) (k : Nat) : val B (xs.take k) = val B xs % B ^ k := by
 have h1 := Cn B xs k
 have h2 := A9 (B := B) (xs := xs.take k) (fun d hd => h d (List.mem_of_mem_take hd))
 rcases Nat.lt_or_ge xs.length k with hk | hk
 ·rw [List.take_of_length_le zO, Nat.mod_eq_of_lt]
  exact Nat.lt_of_lt_of_le (A9 h) (Nat.pow_le_pow_right zO zO)
 ·have hl : (xs.take k).length = k := by simp; omega
  rw [hl] at h1 h2
  rw [h1, Nat.add_mul_mod_self_left, Nat.mod_eq_of_lt h2]
theorem Hd {B : Nat} (hB : 1 < B) {xs : List Nat} (h : ∀ d ∈ xs, d < B) (k : Nat) : val B (xs.drop k) = val B xs / B ^ k := by
 have h1 := Cn B xs k
 have h2 := A9 (B := B) (xs := xs.take k) (fun d hd => h d (List.mem_of_mem_take hd))
 rcases Nat.lt_or_ge xs.length k with hk | hk
 ·rw [Je zO, Nat.div_eq_of_lt]
  exact Nat.lt_of_lt_of_le (A9 h) (Nat.pow_le_pow_right zO zO)
 ·have hl : (xs.take k).length = k := by simp; omega
  rw [hl] at h1 h2
  rw [h1, Nat.add_mul_div_left _ _ (Nat.pow_pos zO), Nat.div_eq_of_lt h2, Nat.zero_add]
theorem GL {B : Nat} (hB : 1 < B) {xs : List Nat} (h : ∀ d ∈ xs, d < B) {k x : Nat} (hx : xs[k]? = some x) : x = val B xs / B ^ k % B := by
 rw [← Hd hB h, Ak hx, val, Nat.add_mul_mod_self_left, Nat.mod_eq_of_lt (h x (List.mem_of_getElem? hx))]
theorem DC {B : Nat} : ∀ {xs : List Nat} {p o v : Nat}, xs[p]? = some o → val B (xs.set p v) + B ^ p * o = val B xs + B ^ p * v
 | [], p, o, v, h => by simp at h
 | x :: xs, 0, o, v, h => by simp at h; subst h; simp [val]; omega
 | x :: xs, p + 1, o, v, h => by
  have := DC (B := B) (v := v) (show xs[p]? = some o by simpa using h)
  simp only [List.set_cons_succ, val, Nat.pow_succ]
  have e : B * (val B (xs.set p v) + B ^ p * o) = B * (val B xs + B ^ p * v) := by rw [this]
  rw [Nat.mul_add, Nat.mul_add] at e
  rw [Nat.mul_comm (B ^ p) B, Nat.mul_assoc, Nat.mul_assoc]; omega
theorem CZ {B : Nat} {xs : List Nat} {p v : Nat} (h : ∀ d ∈ xs, d < B) (hv : v < B) : ∀ d ∈ xs.set p v, d < B := by
 intro d hd
 rcases List.mem_or_eq_of_mem_set hd with h' | h'
 ·exact h d h'
 ·exact h' ▸ hv
theorem Dt (B n : Nat) : val B (List.replicate n 0) = 0 := by induction n <;> simp_all [List.replicate_succ, val]
theorem EZ {B n : Nat} (hB : 1 < B) : ∀ d ∈ List.replicate n 0, d < B := by intro d hd; rw [List.eq_of_mem_replicate hd]; omega
theorem AI {α : Type} {xs : List α} {i : Nat} (h : i < xs.length) : ∃ x, xs[i]? = some x := ⟨_, List.getElem?_eq_getElem h⟩
theorem Jf {B : Nat} (hB : 1 < B) {xs : List Nat} (h : ∀ d ∈ xs, d < B) {k x : Nat} (hx : xs[k]? = some x) (hv : val B xs < B ^ k) : x = 0 := by
 rw [GL hB h hx, Nat.div_eq_of_lt hv, Nat.zero_mod]
theorem Kt {B c x y o : Nat} (hc : c < B) (hx : x < B) (hy : y < B) (ho : o < B) : (c + (x * y + o)) / B < B ∧ (c + (x * y + o)) % B < B ∧ x * y ≤ (B - 1) * (B - 1) := by
 have h1 : x * y ≤ (B - 1) * (B - 1) := Nat.mul_le_mul zO zO
 refine ⟨?_, Nat.mod_lt _ zO, h1⟩
 rw [Nat.div_lt_iff_lt_mul zO]
 obtain ⟨b, rfl⟩ : ∃ b, B = b + 1 := ⟨B - 1, zO⟩
 simp only [Nat.add_sub_cancel] at h1
 have : (b + 1) * (b + 1) = b * b + 2 * b + 1 := by rw [Nat.mul_add, Nat.add_mul]; omega
 omega
structure Est (B V w d : Nat) : Prop where
 lt : d < B
 up : w < (d + 1) * V
 low : d * V ≤ w + V
theorem Est.right {B V w d : Nat} (h : Est B V w d) (hV : 0 < V) (hle : d * V ≤ w) : d = w / V := NC hV hle (by have := h.up; rw [Nat.add_mul, Nat.one_mul] at this; exact this)
theorem Est.over {B V w d : Nat} (h : Est B V w d) (hV : 0 < V) (hgt : w < d * V) : 0 < d ∧ d - 1 = w / V ∧ w + V - d * V = w - (d - 1) * V ∧ (d - 1) * V ≤ w := by
  have hd : 0 < d := by rcases Nat.eq_zero_or_pos d with rfl | h; · simp at hgt
                        · exact h
  obtain ⟨e, rfl⟩ : ∃ e, d = e + 1 := ⟨d - 1, by omega⟩
  have h1 := h.low
  rw [Nat.add_mul, Nat.one_mul] at h1 hgt
  refine ⟨hd, NC hV (by simp; omega) (by simp; omega), ?_, by simp; omega⟩
  simp only [Nat.add_sub_cancel, Nat.add_mul, Nat.one_mul]; omega
structure Digs (B K V w top next x third : Nat) : Prop where
 hV : ∃ v0, v0 < K ∧ V = (top * B + next) * K + v0
 hw : ∃ w0, w0 < K ∧ w = (x * B + third) * K + w0
 next : next < B
 third : third < B
 lt : w < V * B
 half : B ≤ 2 * top
 B0 : 1 < B
section
variable {B K V w top next x third d r : Nat}
theorem Digs.pos (h : Digs B K V w top next x third) : 0 < top ∧ 0 < V := by
 have h1 := h.half; have h2 := h.B0
 obtain ⟨v0, k, e⟩ := h.hV
 have : 0 < top := by omega
 refine ⟨this, ?_⟩
 have h3 : 1 * K ≤ (top * B + next) * K := Nat.mul_le_mul_right _ (by have := Nat.mul_le_mul this (Nat.le_of_lt h2); omega)
 omega
theorem Digs.start (h : Digs B K V w top next x third) : w < (x / top + 1) * V := by
 obtain ⟨v0, k1, e1⟩ := h.hV
 obtain ⟨w0, k2, e2⟩ := h.hw
 have ht := h.pos.1
 have h1 : x + 1 ≤ (x / top + 1) * top := by
  have := Nat.div_add_mod x top; have h2 := Nat.mod_lt x ht
  rw [Nat.add_mul, Nat.one_mul, Nat.mul_comm (x / top) top]; omega
 have h2 : (x + 1) * B ≤ (x / top + 1) * top * B := Nat.mul_le_mul_right _ h1
 have h3 : x * B + third + 1 ≤ (x / top + 1) * (top * B + next) := by
  rw [Nat.mul_add, ← Nat.mul_assoc]; rw [Nat.add_mul x 1 B, Nat.one_mul] at h2; have := h.third; omega
 have h4 : (x * B + third + 1) * K ≤ (x / top + 1) * (top * B + next) * K := Nat.mul_le_mul_right _ h3
 rw [Nat.add_mul (x * B + third), Nat.one_mul] at h4
 have h5 : (x / top + 1) * V = (x / top + 1) * (top * B + next) * K + (x / top + 1) * v0 := by rw [e1, Nat.mul_add, Nat.mul_assoc]
 omega
theorem Digs.first (h : Digs B K V w top next x third) : x / top ≤ B + 1 := by
 obtain ⟨v0, k1, e1⟩ := h.hV
 obtain ⟨w0, k2, e2⟩ := h.hw
 exact Oe e1 e2 k1 h.next (by have := h.B0; omega) h.lt h.half
theorem Digs.less (h : Digs B K V w top next x third) (hx : d * top + r = x) (hc : B ≤ d ∨ r * B + third < d * next) : 0 < d ∧ w < (d - 1 + 1) * V ∧ (d - 1) * top + (r + top) = x := by
 have hB := h.B0
 have hd : 0 < d := by
  rcases hc with hc | hc
  ·omega
  ·rcases Nat.eq_zero_or_pos d with rfl | h
   ·simp at hc
   ·exact h
 refine ⟨hd, ?_, ?_⟩
 ·rw [Nat.sub_add_cancel hd]
  rcases hc with hc | hc
  ·have h1 := h.lt; have : B * V ≤ d * V := Nat.mul_le_mul_right _ hc
   rw [Nat.mul_comm] at h1; omega
  ·obtain ⟨v0, k1, e1⟩ := h.hV
   obtain ⟨w0, k2, e2⟩ := h.hw
   exact Sn e1 e2 k2 hx hc
 ·obtain ⟨e, rfl⟩ : ∃ e, d = e + 1 := ⟨d - 1, zO⟩
  rw [Nat.add_mul, Nat.one_mul] at hx; simp; omega
theorem Digs.done (h : Digs B K V w top next x third) (hx : d * top + r = x) (hu : w < (d + 1) * V) (hd : d < B) (hc : d * next ≤ r * B + third) : Est B V w d := by
 obtain ⟨v0, k1, e1⟩ := h.hV
 obtain ⟨w0, k2, e2⟩ := h.hw
 exact ⟨hd, hu, QM e1 e2 k1 hx hc zO h.pos.1⟩
theorem Digs.early (h : Digs B K V w top next x third) (hx : d * top + r = x) (hu : w < (d + 1) * V) (hd : d < B) (hr : B ≤ r) : Est B V w d := by
 refine h.done hx hu hd ?_
 have h1 : d * next ≤ B * B := Nat.mul_le_mul zO (by have := h.next; omega)
 have h2 : B * B ≤ r * B := Nat.mul_le_mul_right _ hr
 omega
theorem Digs.small (h : Digs B K V w top next x third) (hx : d * top + r = x) (hd : B < d) : r + top < B := by
 obtain ⟨v0, k1, e1⟩ := h.hV
 obtain ⟨w0, k2, e2⟩ := h.hw
 have hlt := h.lt
 have h1 : x * B * K ≤ w := by rw [e2, Nat.add_mul]; omega
 have h2 : V * B < ((top * B + next) * K + K) * B := Nat.mul_lt_mul_of_pos_right zO (by have := h.B0; omega)
 have h3 : x * B * K < (top * B + next + 1) * B * K := by
  have : ∀ X : Nat, (X * K + K) * B = (X + 1) * B * K := fun X => by rw [Nat.add_mul X 1 B, Nat.one_mul, Nat.add_mul (X * K), Nat.add_mul (X * B), Nat.mul_right_comm, Nat.mul_comm K B]
  rw [← this]; omega
 have h4 : x * B < (top * B + next + 1) * B := Nat.lt_of_mul_lt_mul_right h3
 have h5 : x < top * B + next + 1 := Nat.lt_of_mul_lt_mul_right h4
 have h6 : (B + 1) * top ≤ d * top := Nat.mul_le_mul_right _ hd
 rw [Nat.add_mul, Nat.one_mul, Nat.mul_comm B top] at h6
 have := h.next
 omega
end
theorem Sp {B n V w : Nat} {vs ws : List Nat} {top next u1 u2 third : Nat} (hB : 1 < B) (hv : ∀ d ∈ vs, d < B) (hw : ∀ d ∈ ws, d < B) (hvl : vs.length = n + 2) (hwl : ws.length = n + 3) (hV : val B vs = V) (hW : val B ws = w)
  (h1 : vs[n + 1]? = some top) (h2 : vs[n]? = some next) (h3 : ws[n + 2]? = some u1) (h4 : ws[n + 1]? = some u2) (h5 : ws[n]? = some third) (hlt : w < V * B) (hh : B ≤ 2 * top) : Digs B (B ^ n) V w top next (u1 * B + u2) third := by
 have l1 := A9 (B := B) (xs := vs.take n) (fun d hd => hv d (List.mem_of_mem_take hd))
 have l2 := A9 (B := B) (xs := ws.take n) (fun d hd => hw d (List.mem_of_mem_take hd))
 have e1 : (vs.take n).length = n := by simp; omega
 have e2 : (ws.take n).length = n := by simp; omega
 rw [e1] at l1
 rw [e2] at l2
 refine ⟨⟨_, l1, ?_⟩, ⟨_, l2, ?_⟩, hv _ (List.mem_of_getElem? h2), hw _ (List.mem_of_getElem? h5), hlt, hh, hB⟩
 ·rw [← hV, Cn B vs n, e1, Ak h2, Ak h1, List.drop_eq_nil_of_le zO]
  simp only [val, Nat.mul_zero, Nat.add_zero]
  rw [Nat.mul_comm (B ^ n), Nat.mul_comm top B, Nat.add_comm next]; omega
 ·rw [← hW, Cn B ws n, e2, Ak h5, Ak h4, Ak h3, List.drop_eq_nil_of_le zO]
  simp only [val, Nat.mul_zero, Nat.add_zero]
  have e : third + B * (u2 + B * u1) = (u1 * B + u2) * B + third := by rw [Nat.mul_comm B, Nat.add_comm u2, Nat.mul_comm B u1]; omega
  rw [e, Nat.mul_comm (B ^ n)]; omega
theorem AT {B : Nat} {xs : List Nat} {i x : Nat} (h : xs[i]? = some x) : val B (xs.take (i + 1)) = val B (xs.take i) + B ^ i * x := by
 have hlt := (List.getElem?_eq_some_iff.1 h).1
 rw [List.take_add_one, h, At]
 simp [val, Nat.min_eq_left (Nat.le_of_lt hlt)]
theorem Jg {B : Nat} (hB : 1 < B) {xs : List Nat} (h : ∀ d ∈ xs, d < B) : xs = enc B (val B xs) ++ List.replicate (xs.length - (enc B (val B xs)).length) 0 := by
 induction hn : xs.length using Nat.strongRecOn generalizing xs with
 | _ n ih =>
  rcases List.eq_nil_or_concat xs with rfl | ⟨ys, y, rfl⟩
  ·simp [val, AZ] at hn ⊢; subst hn; simp
  ·rw [List.concat_eq_append] at *
   by_cases hy : y = 0
   ·subst hy
    have hl : ys.length < n := by simp at hn; omega
    have := ih ys.length hl (fun d hd => h d (by simp [hd])) rfl
    have hv : val B (ys ++ [0]) = val B ys := by rw [At]; simp [val]
    rw [hv]
    have hle : (enc B (val B ys)).length ≤ ys.length := Af hB (A9 (fun d hd => h d (by simp [hd])))
    conv => lhs; rw [this]
    rw [List.append_assoc]
    congr 1
    have : n - (enc B (val B ys)).length = (ys.length - (enc B (val B ys)).length) + 1 := by simp at hn; omega
    rw [this, List.replicate_succ']
   ·have e := Fp hB h (fun x hx => by simp at hx; omega)
    rw [e, ← hn, Nat.sub_self]; simp
def padL (B L v : Nat) : List Nat := enc B v ++ List.replicate (L - (enc B v).length) 0
theorem Jh {B : Nat} (hB : 1 < B) {xs : List Nat} (h : ∀ d ∈ xs, d < B) {L v : Nat} (hl : xs.length = L) (hv : val B xs = v) : xs = padL B L v := by subst hl hv; exact Jg hB h
theorem Fq {B L v : Nat} (hB : 1 < B) (h : v < B ^ L) : (padL B L v).length = L := by
 have := Af hB h; simp [padL]; omega
theorem GM {B L v : Nat} (hB : 1 < B) : ∀ d ∈ padL B L v, d < B := by
 intro d hd
 rcases List.mem_append.1 hd with h | h
 ·exact Ad hB v d h
 ·rw [List.eq_of_mem_replicate h]; omega
theorem Dh {B L v : Nat} (hB : 1 < B) : val B (padL B L v) = v := by simp [padL, At, Dt, Aa hB]
theorem Di {α : Type} {pre ds post : List α} {i : Nat} (h : i < ds.length) : (pre ++ ds ++ post)[pre.length + i]? = ds[i]? := by
 rw [List.append_assoc, List.getElem?_append_right zO, Nat.add_sub_cancel_left, List.getElem?_append_left h]
theorem EH {α : Type} {pre ds post : List α} {i : Nat} {e : α} (h : i < ds.length) : (pre ++ ds ++ post).set (pre.length + i) e = pre ++ ds.set i e ++ post := by
 rw [List.append_assoc, List.set_append_right _ _ zO, Nat.add_sub_cancel_left, List.set_append_left _ _ h, List.append_assoc]
theorem Bz {B : Nat} {xs : List Nat} {i e : Nat} (h : i < xs.length) : val B ((xs.set i e).take (i + 1)) = val B (xs.take i) + B ^ i * e := by
 rw [AT (x := e) (by simp [h]), List.take_set, List.set_eq_of_length_le zW]
theorem CB {α : Type} {xs ys : List α} {i : Nat} {e : α} (h : xs.drop i = ys.drop i) : (xs.set i e).drop (i + 1) = ys.drop (i + 1) := by
 rw [List.drop_set_of_lt zO]
 have := congrArg (List.drop 1) h
 rwa [List.drop_drop, List.drop_drop] at this
end
attribute [go_sem] Bu
theorem He (hm : Tryz.prog.follows .mixedOrders = true) (a d : Nat) (ha : (enc B9 a).length ≤ 1099511627776) (hd : 0 < d) (hd2 : d ≤ 1000000000) :
  CallOk Tryz.prog 130 [natS a, .int .i64 d] (natS (a * d)) [] := by
 refine AB (W := fun _ => false) false hm Tryz.func130 rfl zK zL (AC ?_)
 generalize hQ : Post Tryz.prog Tryz.f130 _ _ _ _ _ = Q
 obtain ⟨n, hn⟩ : ∃ n, (enc B9 a).length = n := ⟨_, rfl⟩
 simp only [stIn, matL, matA, st00, natS]
 have hB : B9 = 1000000000 := rfl
 simp (disch := omega) only [go_sem, List.getD_cons_zero, List.getD_cons_succ, hn, reach, Int.toNat_natCast]
 refine AM (fun (p : Nat × Nat × List Nat) st => st.fr 1 = .int .i64 d ∧ st.fr 5 = .ref 0 (n + 1) 0 p.1 ∧ st.fr 6 = .int .i64 p.2.1 ∧ st.fr 14 = natS a ∧ st.fr 15 = .int .i64 n ∧ st.fr 16 = .int .i64 p.1 ∧
   st.h 0 = ⟨2, natA .i64 (p.2.2 ++ List.replicate (n + 1 - p.1) 0), true, true, true⟩ ∧ p.2.2.length = p.1 ∧ p.1 ≤ n ∧ p.2.1 < d ∧ (∀ q ∈ p.2.2, q < B9) ∧ val B9 p.2.2 + B9 ^ p.1 * p.2.1 = d * val B9 ((enc B9 a).take p.1)) (fun p => n - p.1) (0, 0, [])
  ⟨zU, zU, zU, by simp [AA, natS], zU, zU, by simp only [AA, if_true, List.nil_append]; rw [Ks, show ((n : Int) + 1).toNat = n + 1 - 0 by omega], zS, zS, hd, zS, by simp [val]⟩ ?_
 rintro ⟨i, c, ds⟩ ⟨fr, h, nx⟩ ⟨h1, h5, h6, h14, h15, h16, hb, hlen, hi, hc, hq, hv⟩ J hJ
 simp only [natS] at h1 h5 h6 h14 h15 h16 hb hlen hi hc hq hv
 by_cases hin : i < n
 ·obtain ⟨x, hx⟩ : ∃ x, (enc B9 a)[i]? = some x := ⟨_, List.getElem?_eq_getElem zO⟩
  have hxB : x < B9 := Ad AR a x (List.mem_of_getElem? hx)
  have gx : (natA .i64 (enc B9 a))[(i : Int).toNat]? = some (.int .i64 x) := Bv (by simpa using hx)
  obtain ⟨c', hc'⟩ : ∃ c', (x * d + c) / 1000000000 = c' := ⟨_, rfl⟩
  obtain ⟨m, AS⟩ : ∃ m, (x * d + c) % 1000000000 = m := ⟨_, rfl⟩
  obtain ⟨s1, s2, s3⟩ := Oc (B := B9) hd hc hxB
  rw [hB, hc'] at s1
  rw [hB, AS] at s2
  rw [hB, hc', AS] at s3
  have hxd : x * d ≤ 1000000000 * 1000000000 := Nat.mul_le_mul zO hd2
  have w1 : (x : Int) * (d : Int) = ((x * d : Nat) : Int) := by simp
  have w2 : ((x * d : Nat) : Int) + (c : Int) = ((x * d + c : Nat) : Int) := by simp
  obtain ⟨z, hz⟩ : ∃ z, x * d = z := ⟨_, rfl⟩
  rw [hz] at w1 w2 hxd hc' AS s3
  have w3 : ((z + c : Nat) : Int).tmod 1000000000 = (m : Int) := by rw [← AS]; exact Kq _ 1000000000
  have w4 : ((z + c : Nat) : Int).tdiv 1000000000 = (c' : Int) := by rw [← hc']; exact Iq _ 1000000000
  have gl : (natA .i64 (ds ++ List.replicate (n + 1 - i) 0)).length = n + 1 := by simp [AF]; omega
  have gt : (natA .i64 (ds ++ List.replicate (n + 1 - i) 0)).take i = natA .i64 ds := by rw [Ay, ← hlen, List.take_left']; rfl
  have gd : (natA .i64 (ds ++ List.replicate (n + 1 - i) 0)).drop (i + 1) = natA .i64 (List.replicate (n - i) 0) := by
   have e0 : ds.drop (i + 1) = [] := List.drop_eq_nil_of_le zO
   rw [Ip, List.drop_append, hlen, e0, List.nil_append, List.drop_replicate, show n + 1 - i - (i + 1 - i) = n - i by omega]
  replace hv := Hide.mk hv
  replace s3 := Hide.mk s3
  replace hz := Hide.mk hz
  replace AS := Hide.mk AS
  replace hc' := Hide.mk hc'
  simp (disch := omega) only [go_sem, h1, h5, h6, h14, h15, h16, gx, w1, w2, w3, w4, hb, gl, gt, gd, reach, hn]
  replace hv := hv.get
  replace s3 := s3.get
  replace hz := hz.get
  refine hJ (i + 1, c', ds ++ [m]) _ ⟨by simp [AA, h1], zU, zU, by simp [AA, h14, natS], by simp [AA, h15], zU, ?_, by simp [hlen], hin, s1, ?_, ?_⟩ zT
  ·simp only [AA, if_true]; rw [show n + 1 - (i + 1) = n - i by omega]
  ·intro q hq'; rcases List.mem_append.1 hq' with h | h
   ·exact hq q h
   ·simp at h; rw [h, hB]; exact s2
  ·simp only [At, AT hx, hlen, Nat.mul_add]
   rw [← hv]
   have e : B9 ^ i * (m + B9 * c') = B9 ^ i * (z + c) := by rw [← s3, hB]
   rw [Nat.mul_add, Nat.mul_add, ← hz] at e
   simp only [val, Nat.mul_zero, Nat.add_zero, Nat.pow_succ]
   have e2 : B9 ^ i * B9 * c' = B9 ^ i * (B9 * c') := Nat.mul_assoc ..
   have e3 : d * (B9 ^ i * x) = B9 ^ i * (x * d) := by rw [Nat.mul_comm d, Nat.mul_assoc]
   omega
 ·obtain rfl : i = n := by omega
  have hta : (enc B9 a).take i = enc B9 a := by rw [← hn, List.take_length]
  rw [hta, Aa AR] at hv
  by_cases hc0 : c = 0
  ·subst hc0
   simp (disch := omega) only [go_sem, h1, h5, h6, h14, h15, h16]
   have hr : natA .i64 ds = natA .i64 (enc B9 (a * d)) := by
    congr 1
    simp only [Nat.mul_zero, Nat.add_zero] at hv
    rw [Nat.mul_comm a d, ← hv]
    refine (L8 AR hq ?_).symm
    by_cases ha0 : a = 0
    ·subst ha0; left; rw [AZ] at hn; exact List.length_eq_zero_iff.1 (by rw [hlen, ← hn]; rfl)
    ·right; rw [hv, hlen, ← hn]; exact Nat.le_trans (HZ AR ha0) (Nat.le_mul_of_pos_left _ hd)
   rw [← hQ]
   exact Bs (off := 0) (len := i) (n := i + 1) (id := 0) (.inl rfl) rfl zU (by simp [hb]) (by simp [hb, AF]; omega) (by simp [hb]) zO (Nat.zero_le _) (by simp only [hb, List.drop_zero, Ay]; rw [← hr]; congr 1; simp [← hlen]) (Ae _ _)
  ·have gl : (natA .i64 (ds ++ List.replicate (i + 1 - i) 0)).length = i + 1 := by simp [AF]; omega
   have gt : (natA .i64 (ds ++ List.replicate (i + 1 - i) 0)).take i = natA .i64 ds := by rw [Ay, ← hlen, List.take_left']; rfl
   have gd : (natA .i64 (ds ++ List.replicate (i + 1 - i) 0)).drop (i + 1) = [] := List.drop_eq_nil_of_le (by rw [gl]; exact Nat.le_refl _)
   simp (disch := omega) only [go_sem, h1, h5, h6, h14, h15, h16, hb, gl, gt, gd, reach]
   have hr : natA .i64 (ds ++ [c]) = natA .i64 (enc B9 (a * d)) := by
    congr 1
    have hv' : val B9 (ds ++ [c]) = a * d := by rw [At, hlen]; simp only [val, Nat.mul_zero, Nat.add_zero]; rw [hv, Nat.mul_comm]
    rw [← hv']
    refine (Fp AR (fun q hq' => ?_) fun x hx => ?_).symm
    ·rcases List.mem_append.1 hq' with h | h
     ·exact hq q h
     ·simp at h; rw [h, hB]; omega
    ·simp at hx; omega
   rw [← hQ]
   exact Bs (off := 0) (len := i + 1) (n := i + 1) (id := 0) (.inl rfl) rfl zU zU (by simp [AA, AF]; omega) zU zO (Nat.zero_le _) (by simp only [AA, if_true, List.drop_zero]; rw [← hr, Ay, List.take_of_length_le (by simp [hlen])]) (Ae _ _)
theorem VI (a b : Nat) : (a : Int) + (b : Int) = ((a + b : Nat) : Int) := by simp
theorem Sq (a n : Nat) : (a : Int) + (no_index (OfNat.ofNat n : Int)) = ((a + OfNat.ofNat n : Nat) : Int) := by simp
theorem VJ (a b : Nat) : (a : Int) * (b : Int) = ((a * b : Nat) : Int) := by simp
theorem Sr (a n : Nat) : (a : Int) * (no_index (OfNat.ofNat n : Int)) = ((a * OfNat.ofNat n : Nat) : Int) := by simp
theorem Ss (a n : Nat) : (no_index (OfNat.ofNat n : Int)) * (a : Int) = ((OfNat.ofNat n * a : Nat) : Int) := by simp
theorem VK (a b : Nat) : (a : Int).tdiv (b : Int) = ((a / b : Nat) : Int) := Iq a b
theorem Su (a n : Nat) : (a : Int).tdiv (no_index (OfNat.ofNat n : Int)) = ((a / OfNat.ofNat n : Nat) : Int) := Iq a n
theorem VL (a b : Nat) : (a : Int).tmod (b : Int) = ((a % b : Nat) : Int) := Kq a b
theorem Sv (a n : Nat) : (a : Int).tmod (no_index (OfNat.ofNat n : Int)) = ((a % OfNat.ofNat n : Nat) : Int) := Kq a n
theorem Sw (a : Nat) : ((a + 1 : Nat) : Int) - 1 = (a : Int) := by omega
theorem DD {k : IntKind} {xs : List Nat} {i : Nat} : (natA k xs)[i]? = (xs[i]?).map fun n : Nat => AV.int k n := by simp [natA]
theorem Du {k : IntKind} {xs : List Nat} {i n : Nat} : (natA k xs).set i (AV.int k n) = natA k (xs.set i n) := by simp [natA, List.map_set]
theorem BJ (n : Nat) : IntKind.u32.wrap (n : Int) = ((n % 4294967296 : Nat) : Int) := by
 simp only [IntKind.wrap, IntKind.signed, IntKind.bits, Bool.false_and, Bool.false_eq_true, if_false]; omega
theorem XM (n : Nat) : (n : Int).fdiv (2 ^ (min (Int.toNat 32) 64)) = ((n / 4294967296 : Nat) : Int) := by
 have : (2 : Int) ^ (min (Int.toNat 32) 64) = 4294967296 := by decide
 rw [this, Int.fdiv_eq_ediv_of_nonneg _ zO]; omega
theorem XN (n : Nat) : (n : Int) * (2 ^ (min (Int.toNat 32) 64)) = ((n * 4294967296 : Nat) : Int) := by
 have : (2 : Int) ^ (min (Int.toNat 32) 64) = 4294967296 := by decide
 rw [this]; simp
theorem AS : Tryz.prog.follows .mixedOrders = true := by kernel_rfl
theorem Do {P : Program} {W : WP} {st : St} {ks : List Fr} {Q : Ex → St → Prop} {c : Code} (R : St → Prop) (h1 : go P W c st [] (fun e st' => e = .normal ∧ R st')) (h2 : ∀ st', R st' → runK P W ks .normal st' Q) : go P W c st ks Q := by
 unfold go at h1 ⊢
 refine CA c (fun e st' h => ?_) h1
 obtain ⟨rfl, h'⟩ : e = .normal ∧ R st' := by cases e <;> exact h
 exact h2 st' h'
theorem EI {n : Int} (h1 : -4294967296 ≤ n) (h2 : n < 0) : IntKind.u32.wrap n = n + 4294967296 := by
 simp only [IntKind.wrap, IntKind.signed, IntKind.bits, Bool.false_and, Bool.false_eq_true, if_false]; omega
theorem YK {a s : Nat} (h : s ≤ 64) : (a : Int) * 2 ^ (min s 64) = ((a * 2 ^ s : Nat) : Int) := by rw [Nat.min_eq_left h]; simp
theorem XO {a s : Nat} (h : s ≤ 64) : (a : Int).fdiv (2 ^ (min s 64)) = ((a / 2 ^ s : Nat) : Int) := by
 rw [Nat.min_eq_left h, Int.fdiv_eq_ediv_of_nonneg _ (Int.le_of_lt (Int.pow_pos zO))]; simp
theorem QO {a s : Nat} (h : s ≤ 32) : (a : Int).fdiv (2 ^ (min s 32)) = ((a / 2 ^ s : Nat) : Int) := by
 rw [Nat.min_eq_left h, Int.fdiv_eq_ediv_of_nonneg _ (Int.le_of_lt (Int.pow_pos zO))]; simp
theorem XP {a b : Nat} (ha : a < 4294967296) (hb : b < 4294967296) : (BitVec.ofInt 32 (a : Int) ||| BitVec.ofInt 32 (b : Int)).toNat = a ||| b := by
 simp only [BitVec.toNat_or, BitVec.toNat_ofInt]
 congr 1
 ·omega
 ·omega
theorem VM {P : Program} {W : FuncId → Bool} {ops : Array Oper} {os : List Oper} {fr : Nat → AV} {h : Nat → Blk} {nx : Nat} {K : St → Prop} {d t t1 : Nat} {p : String} {af : Array Edge} {s : ByteArray} {i : Operand} {k : IntKind} {n : Nat} {b : UInt8}
  (hi : evA fr i = .int k (n : Int)) (hs : strT P t1 = true) (hb : s.data.toList[n]? = some b) (hk : wpos P W ops os ⟨upd fr d (.int .u8 b.toNat), h, nx⟩ K) :
  wpos P W ops (⟨some d, .index t1 (.const (.string s)) i, t, p, af, none⟩ :: os) ⟨fr, h, nx⟩ K := by
 rw [Ug, hi]
 have hl := (List.getElem?_eq_some_iff.1 hb).1
 have e : evA fr (.const (.string s)) = .str s.data.toList := rfl
 rw [e]
 simp only
 rw [if_pos ⟨hs, zO, zO⟩, Int.toNat_natCast, hb]
 exact hk
theorem Sx {a b : Nat} (ha : a < 4294967296) (hb : b < 4294967296) : intA .or .u32 (a : Int) (b : Int) = some (.int .u32 ((a ||| b : Nat) : Int)) := by
  have e : (BitVec.ofInt IntKind.u32.bits (a : Int) ||| BitVec.ofInt IntKind.u32.bits (b : Int)).toNat = a ||| b := XP ha hb
  have hl : a ||| b < 2 ^ 32 := Nat.or_lt_two_pow (by simpa using ha) (by simpa using hb)
  simp only [intA, e]
  rw [BH (by omega) (by have : (2 : Nat) ^ 32 = 4294967296 := by decide
                        omega)]
theorem DZ (h : Nat → Blk) (j i : Nat) : eatH h [j] i = if i = j then { h i with lv := false } else h i := by simp [eatH]
attribute [go_sem] VI Sq VJ Sr Ss VK Su VL Sv Sw DD Du DZ Int.toNat_natCast Option.map_some XM XN List.getD_cons_zero List.getD_cons_succ List.length_set List.set_cons_zero List.set_cons_succ
def B32 : Nat := 4294967296
theorem AJ : 1 < B32 := by decide
def natI (n : Nat) : AV := .sl 132 (natA .u32 (enc B32 n)) [] false
@[simp] theorem It (n : Nat) : (natI n).pure = true := by simp [natI, AV.pure, Ae, AV.pureL]
@[simp] theorem BD (n : Nat) : (natS n).pure = true := by simp [natS, AV.pure, Ae, AV.pureL]
theorem VN : Tryz.prog.underlying 74 = some (.slice 132) := by kernel_rfl
attribute [go_sem] VN
theorem Ea (xs : List Nat) (hlen : xs.length < 9223372036854775808) : CallOk Tryz.prog 105 [.sl 132 (natA .u32 xs) [] false] (.sl 132 (natA .u32 (trimZ xs)) [] false) [] := by
 refine AB (W := fun _ => false) false AS Tryz.func105 rfl zK zL (AC ?_)
 generalize hQ : Post Tryz.prog Tryz.f105 _ _ _ _ _ = Q
 simp only [stIn, matL, matA, st00, List.getD]
 simp only [go_sem, ↓L7, ↓Dg]
 refine AM (fun (ys : List Nat) st => st.fr 0 = .sl 132 (natA .u32 ys) [] false ∧ ys.length < 9223372036854775808 ∧ trimZ ys = trimZ xs) (fun ys => ys.length) xs ⟨rfl, hlen, rfl⟩ ?_
 rintro ys ⟨fr, h, nx⟩ ⟨h0, h1, h2⟩ J hJ
 simp only at h0
 rcases List.eq_nil_or_concat ys with rfl | ⟨zs, z, rfl⟩
 ·simp (disch := omega) only [go_sem, h0]
  rw [← hQ]
  exact AG (.inl rfl) rfl (by simp [AA, ← h2]; rfl) (by simp [AV.pure, Ae, AV.pureL])
 ·rw [List.concat_eq_append] at *
  simp only [List.length_append, List.length_cons, List.length_nil] at h1
  have hg : (zs ++ [z])[zs.length]? = some z := by simp
  have hl : (zs ++ [z]).length = zs.length + 1 := by simp
  by_cases hz : z = 0
  ·simp (disch := omega) only [go_sem, h0, hg, hl]
   refine hJ zs _ ⟨?_, zO, by rw [← h2, hz, DX]⟩ zS
   simp [AA, Ay]
  ·simp (disch := omega) only [go_sem, h0, hg, hl]
   rw [← hQ]
   refine AG (.inl rfl) rfl (by simp [AA, ← h2, Ds _ hz]) (by simp [AV.pure, Ae, AV.pureL])
theorem Gj (a b : Nat) (ha : (enc B32 a).length < 9223372036854775808) (hb : (enc B32 b).length < 9223372036854775808) : CallOk Tryz.prog 78 [natI a, natI b] (.int .i64 (cmpI a b)) [] := by
 refine AB (W := fun _ => false) false AS Tryz.func78 rfl zK zL (AC ?_)
 generalize hQ : Post Tryz.prog Tryz.f78 _ _ _ _ _ = Q
 simp only [stIn, matL, matA, st00, natI]
 by_cases hl : (enc B32 a).length = (enc B32 b).length
 ·simp (disch := omega) only [go_sem, List.getD_cons_zero, List.getD_cons_succ]
  refine AM (fun (i : Nat) st => st.fr 0 = natI a ∧ st.fr 1 = natI b ∧ st.fr 5 = .int .i64 ((i : Int) - 1) ∧ i ≤ (enc B32 a).length ∧ (enc B32 a).drop i = (enc B32 b).drop i) (fun i => i) (enc B32 a).length
   ⟨by simp [AA, natI], by simp [AA, natI], zU, Nat.le_refl _, by simp [hl]⟩ ?_
  rintro i ⟨fr, h, nx⟩ ⟨h0, h1, h5, hi, hd⟩ J hJ
  simp only [natI] at h0 h1 h5
  rcases Nat.eq_zero_or_pos i with rfl | hp
  ·simp (disch := omega) only [go_sem, h0, h1, h5]
   rw [← hQ]
   exact AG (.inl rfl) rfl (by simp [AA]; exact (M8 AJ (by simpa using hd)).symm) rfl
  ·obtain ⟨j, rfl⟩ : ∃ j, i = j + 1 := ⟨i - 1, zO⟩
   obtain ⟨x, hx⟩ : ∃ x, (enc B32 a)[j]? = some x := ⟨_, List.getElem?_eq_getElem zO⟩
   obtain ⟨y, hy⟩ : ∃ y, (enc B32 b)[j]? = some y := ⟨_, List.getElem?_eq_getElem zO⟩
   have e1 : ((j + 1 : Nat) : Int) - 1 = j := by omega
   rw [e1] at h5
   have gx : (natA .u32 (enc B32 a))[(j : Int).toNat]? = some (.int .u32 x) := Bv (by simpa using hx)
   have gy : (natA .u32 (enc B32 b))[(j : Int).toNat]? = some (.int .u32 y) := Bv (by simpa using hy)
   by_cases hxy : x = y
   ·simp (disch := omega) only [go_sem, h0, h1, h5, hx, hy]
    refine hJ j _ ⟨by simp [AA, h0, natI], by simp [AA, h1, natI], zU, zO, ?_⟩ zO
    rw [Ak hx, Ak hy, hd, hxy]
   ·have hc := M7 AJ hl hx hy hd hxy
    by_cases hlt : x < y
    ·simp (disch := omega) only [go_sem, h0, h1, h5, hx, hy]
     rw [← hQ]
     exact AG (.inl rfl) rfl (by simp [AA, hc, hlt]) rfl
    ·simp (disch := omega) only [go_sem, h0, h1, h5, hx, hy]
     rw [← hQ]
     exact AG (.inl rfl) rfl (by simp [AA, hc, hlt]) rfl
 ·have hc := HY AJ hl
  by_cases hlt : (enc B32 a).length < (enc B32 b).length
  ·simp (disch := omega) only [go_sem, List.getD_cons_zero, List.getD_cons_succ]
   rw [← hQ]
   exact AG (.inl rfl) rfl (by simp [AA, hc, hlt]) rfl
  ·simp (disch := omega) only [go_sem, List.getD_cons_zero, List.getD_cons_succ]
   rw [← hQ]
   exact AG (.inl rfl) rfl (by simp [AA, hc, hlt]) rfl
theorem Cw : callable Tryz.prog 105 = true := by kernel_rfl
theorem Co : callable Tryz.prog 78 = true := by kernel_rfl
theorem Ao : callable Tryz.prog 79 = true := by kernel_rfl
theorem Dv : callable Tryz.prog 144 = true := by kernel_rfl
theorem ND (xs : List Nat) (ex : Bool) (hlen : xs.length < 9223372036854775808) : CallOk Tryz.prog 105 [.sl 132 (natA .u32 xs) [] ex] (.sl 132 (natA .u32 (trimZ xs)) [] false) [] :=
 (Ea xs hlen).args (SubL.cons Cm .nil)
theorem Sy {B a b n : Nat} (hB : 1 < B) (ha : a < B) (hb : b < B) (h : a + B * b = n) : trimZ [a, b] = enc B n := by
 rw [A1 hB (by intro d hd; simp at hd; rcases hd with rfl | rfl <;> assumption)]; simp [val, h]
theorem EJ (n : Nat) (hn : n < 18446744073709551616) : CallOk Tryz.prog 79 [.int .u64 n] (natI n) [] := by
 (refine AB (W := fun _ => false) false AS Tryz.func79 rfl zK zL (AC ?_); generalize hQ : Post Tryz.prog Tryz.f79 _ _ _ _ _ = Q; simp only [stIn, matL, matA, st00])
 have e1 : (AV.int .u32 ((n % 4294967296 : Nat) : Int)) :: [.int .u32 ((n / 4294967296 : Nat) : Int)] = natA .u32 [n % 4294967296, n / 4294967296] := rfl
 simp (disch := omega) only [go_sem, BH, BJ]
 rw [e1]
 refine AD (ND [n % 4294967296, n / 4294967296] true zS) Cw zE zP zP ?_
 simp (disch := omega) only [go_sem]
 rw [← hQ]
 exact AG (.inl rfl) rfl (by simp only [AA, ↓reduceIte, natI]; rw [Sy (n := n) AJ (by simp only [B32]; omega) (by simp only [B32]; omega) (by simp only [B32]; omega)]) (It n)
def smallI (a : Nat) : AV := if a < 18446744073709551616 then .tup [.int .u64 a, .bool true] else .tup [.int .u64 0, .bool false]
theorem Fs {B i x : Nat} {xs : List Nat} (h : xs[i]? = some x) : val B (xs.drop i) = x + B * val B (xs.drop (i + 1)) := by rw [Ak h]; rfl
theorem NE (a : Nat) (ha : (enc B32 a).length ≤ 1099511627776) : CallOk Tryz.prog 144 [natI a] (smallI a) [] := by
 (refine AB (W := fun _ => false) false AS Tryz.func144 rfl zK zL (AC ?_); generalize hQ : Post Tryz.prog Tryz.f144 _ _ _ _ _ = Q; simp only [stIn, matL, matA, st00, natI])
 by_cases hs : (enc B32 a).length ≤ 2
 ·have hlt : a < 18446744073709551616 := by
   have h1 := Aw AJ (n := a)
   have h2 : B32 ^ (enc B32 a).length ≤ B32 ^ 2 := Nat.pow_le_pow_right zD hs
   have h3 : B32 ^ 2 = 18446744073709551616 := by decide
   omega
  simp (disch := omega) only [go_sem]
  refine AM (fun (i : Nat) st => st.fr 0 = natI a ∧ st.fr 4 = .int .u64 (val B32 ((enc B32 a).drop i) : Nat) ∧ st.fr 5 = .int .i64 ((i : Int) - 1) ∧ i ≤ (enc B32 a).length) (fun i => i) (enc B32 a).length
   ⟨by simp [AA, natI], by simp [AA, val], zU, Nat.le_refl _⟩ ?_
  rintro i ⟨fr, h, nx⟩ ⟨h0, h4, h5, hi⟩ J hJ
  simp only [natI] at h0 h4 h5
  rcases Nat.eq_zero_or_pos i with rfl | hp
  ·rw [List.drop_zero, Aa AJ] at h4
   simp (disch := omega) only [go_sem, h0, h4, h5]
   rw [← hQ]
   simp only [smallI, if_pos hlt]
   exact Ag (.inl rfl) rfl zU zU rfl rfl
  ·obtain ⟨j, rfl⟩ : ∃ j, i = j + 1 := ⟨i - 1, zO⟩
   obtain ⟨x, hx⟩ : ∃ x, (enc B32 a)[j]? = some x := ⟨_, List.getElem?_eq_getElem zO⟩
   have hxB : x < B32 := Ad AJ a x (List.mem_of_getElem? hx)
   have e1 : ((j + 1 : Nat) : Int) - 1 = j := by omega
   rw [e1] at h5
   have hv := Fs (B := B32) hx
   have hle : val B32 ((enc B32 a).drop (j + 1)) < B32 := by
    have := A9 (B := B32) (xs := (enc B32 a).drop (j + 1)) (fun d hd => Ad AJ a d (List.mem_of_mem_drop hd))
    have h2 : B32 ^ ((enc B32 a).drop (j + 1)).length ≤ B32 ^ 1 := Nat.pow_le_pow_right zD zW
    rw [Nat.pow_one] at h2; omega
   generalize val B32 ((enc B32 a).drop (j + 1)) = v at h4 hv hle
   have hB : B32 = 4294967296 := rfl
   rw [hB] at hxB hle
   rw [show B32 * v = 4294967296 * v from rfl] at hv
   simp (disch := omega) only [go_sem, h0, h4, h5, hx]
   refine hJ j _ ⟨by simp [AA, h0, natI], ?_, zU, zO⟩ zO
   rw [hv]; simp [AA]; omega
 ·have hbig : ¬ a < 18446744073709551616 := fun h => hs (Af AJ (by simpa [B32] using h))
  simp (disch := omega) only [go_sem]
  refine AM (fun (_ : Unit) st => st.fr 0 = natI a ∧ st.fr 4 = .int .u64 0 ∧ ∃ i : Nat, st.fr 5 = .int .i64 i ∧ i ≤ 1099511627776) (fun _ => 0) ()
   ⟨by simp [AA, natI], zU, (enc B32 a).length - 1, by simp [AA]; omega, zO⟩ ?_
  rintro i ⟨fr, h, nx⟩ ⟨h0, h4, j, h5, hj⟩ J hJ
  simp only [natI] at h0 h4 h5
  simp (disch := omega) only [go_sem, h0, h4, h5]
  rw [← hQ]
  simp only [smallI, if_neg hbig]
  exact Ag (.inl rfl) rfl zU zU rfl rfl
theorem Ku : callable Tryz.prog 118 = true := by kernel_rfl
theorem L9 {k : IntKind} {n : Nat} : List.replicate n (AV.int k 0) = natA k (List.replicate n 0) := by simp [natA]
attribute [go_sem] L9 Int.toNat_natCast
theorem B3 {st : St} {id n len T : Nat} {k : IntKind} {xs : List Nat} (h : st.h id = ⟨T, natA k xs, true, true, true⟩) (hn : xs.length = n) (hl : len ≤ n) :
  snapL (snapA st 8) [.ref id n 0 len] = some ([.sl T (natA k (xs.take len)) [] false], [id]) := by
 have := Av (st := st) (d := 7) (id := id) (n := n) (off := 0) (len := len) (T := T) (r := natA k (xs.take len)) (by rw [h]) (by rw [h, AF, hn]) (by rw [h]) zO (by rw [h, List.drop_zero, Ay]) (Ae _ _)
 simp [snapL, this]
theorem MA (a d : Nat) (ha : (enc B32 a).length ≤ 1099511627776) (hd : 0 < d) (hd2 : d < 4294967296) :
  CallOk Tryz.prog 118 [natI a, .int .u32 d] (.tup [natI (a / d), .int .u32 ((a % d : Nat) : Int)]) [] := by
 (refine AB (W := fun g => g == 105) false AS Tryz.func118 rfl zK zL (AC ?_); generalize hQ : Post Tryz.prog Tryz.f118 _ _ _ _ _ = Q; simp only [stIn, matL, matA, st00, natI])
 obtain ⟨n, hn⟩ : ∃ n, (enc B32 a).length = n := ⟨_, rfl⟩
 have hB : B32 = 4294967296 := rfl
 simp (disch := omega) only [go_sem, hn, reach]
 refine AM (fun (p : Nat × Nat × List Nat) st => st.fr 0 = natI a ∧ st.fr 1 = .int .u32 d ∧ st.fr 6 = .ref 0 n 0 n ∧ st.fr 7 = .int .u64 p.2.1 ∧ st.fr 8 = .int .i64 ((p.1 : Int) - 1) ∧
   st.h 0 = ⟨132, natA .u32 (List.replicate p.1 0 ++ p.2.2), true, true, true⟩ ∧ p.1 + p.2.2.length = n ∧ p.2.1 < d ∧ (∀ q ∈ p.2.2, q < B32) ∧ val B32 p.2.2 * d + p.2.1 = val B32 ((enc B32 a).drop p.1)) (fun p => p.1) (n, 0, [])
  ⟨by simp [AA, natI], zU, zU, zU, zU, by simp [AA, natA], zS, hd, zS, by simp [← hn, val]⟩ ?_
 rintro ⟨i, r, qs⟩ ⟨fr, h, nx⟩ ⟨h0, h1, h6, h7, h8, hb, hlen, hr, hq, hv⟩ J hJ
 simp only [natI] at h0 h1 h6 h7 h8 hb hlen hr hq hv
 rcases Nat.eq_zero_or_pos i with rfl | hp
 ·simp only [List.replicate_zero, List.nil_append, Nat.zero_add, List.drop_zero, Aa AJ] at hb hlen hv
  simp (disch := omega) only [go_sem, h0, h1, h6, h7, h8]
  refine DB (Ea (qs.take n) zW) Cw (by simp [evA, AA]) (B3 hb hlen (Nat.le_refl _)) (by simp [hb]) (by simp [AV.pure, AV.pureL, Ae]) (by simp [AV.pure, AV.pureL, Ae]) zS ?_
  simp (disch := omega) only [go_sem, h7, BH, BJ]
  obtain ⟨e1, e2⟩ := Kr hd hr hv
  have e3 : trimZ (qs.take n) = enc B32 (a / d) := by rw [List.take_of_length_le zO, A1 AJ hq, e1]
  have e4 : r % 4294967296 = a % d := by rw [← e2]; omega
  rw [e3, ← hQ]
  exact Ag (.inl rfl) rfl (by simp [AA, natI]) (by simp only [AA, ↓reduceIte, e2]) zS rfl
 ·obtain ⟨j, rfl⟩ : ∃ j, i = j + 1 := ⟨i - 1, zO⟩
  obtain ⟨x, hx⟩ : ∃ x, (enc B32 a)[j]? = some x := ⟨_, List.getElem?_eq_getElem zO⟩
  have hxB : x < B32 := Ad AJ a x (List.mem_of_getElem? hx)
  have e1 : ((j + 1 : Nat) : Int) - 1 = j := by omega
  rw [e1] at h8
  obtain ⟨s1, s2, s3⟩ := Ir (q := val B32 qs) hd hr hxB
  have hv2 := Fs (B := B32) hx
  rw [hB] at hxB
  have hrB : r * 4294967296 < 18446744069414584320 := by omega
  have hmm : (r * 4294967296 + x) / d < 4294967296 := by rw [hB] at s1; exact s1
  have hrd : (r * 4294967296 + x) % d < d := Nat.mod_lt _ hd
  have hd0 : ¬ (d : Int) = 0 := by omega
  have hl1 : (natA .u32 (List.replicate (j + 1) 0 ++ qs)).length = n := by simp [AF]; omega
  have hg1 : ((List.replicate (j + 1) 0 ++ qs)[j]?) = some 0 := by rw [List.getElem?_append_left zS, List.getElem?_replicate, if_pos zO]
  obtain ⟨q, hq'⟩ : ∃ q, (r * 4294967296 + x) / d = q := ⟨_, rfl⟩
  obtain ⟨m, hm⟩ : ∃ m, (r * 4294967296 + x) % d = m := ⟨_, rfl⟩
  rw [hB, hq', hm] at s3
  rw [hq'] at hmm
  rw [hm] at hrd
  simp (disch := omega) only [go_sem, h0, h1, h6, h7, h8, hx, hb, hl1, hd0, hg1, hq', hm]
  refine hJ (j, m, q :: qs) _ ⟨by simp [AA, h0, natI], by simp [AA, h1], by simp [AA, h6], zU, zU, ?_, ?_, hrd, ?_, ?_⟩ zT
  ·simp only [AA, ↓reduceIte, Bl]
  ·simp; omega
  ·intro q' hq'; rcases List.mem_cons.1 hq' with h | h
   ·rw [h, hB]; exact hmm
   ·exact hq q' h
  ·simp only [val]; rw [hv2, ← hv, hB]; exact s3
theorem QP : callable Tryz.prog 116 = true := by kernel_rfl
theorem QQ : callable Tryz.prog 77 = true := by kernel_rfl
theorem Eb {B c x y : Nat} (hB : 1 < B) (hc : c ≤ 1) (hx : x < B) (hy : y < B) : (c + x + y) / B ≤ 1 ∧ (c + x + y) % B < B ∧ (c + x + y) % B + B * ((c + x + y) / B) = c + x + y := by
 refine ⟨?_, Nat.mod_lt _ zO, Nat.mod_add_div _ _⟩
 rw [← Nat.lt_succ_iff, Nat.div_lt_iff_lt_mul zO]; omega
theorem Dj {B : Nat} {xs : List Nat} {i : Nat} : val B (xs.take (i + 1)) = val B (xs.take i) + B ^ i * xs.getD i 0 := by
 by_cases h : i < xs.length
 ·have hx : xs[i]? = some xs[i] := List.getElem?_eq_getElem h
  rw [AT hx, List.getD_eq_getElem?_getD, hx]; rfl
 ·rw [List.getD_eq_getElem?_getD, List.getElem?_eq_none zO, List.take_of_length_le zO, List.take_of_length_le zO]; simp
theorem Ji (a b : Nat) (ha : (enc B32 a).length ≤ 1099511627776) (hb : (enc B32 b).length ≤ 1099511627776) : CallOk Tryz.prog 116 [natI a, natI b] (natI (a + b)) [] := by
 (refine AB (W := fun g => g == 105) false AS Tryz.func116 rfl zK zL (AC ?_); generalize hQ : Post Tryz.prog Tryz.f116 _ _ _ _ _ = Q; simp only [stIn, matL, matA, st00, natI])
 have hB : B32 = 4294967296 := rfl
 simp (disch := omega) only [go_sem, ↓Ci]; try unfold goS
 obtain ⟨R, hR⟩ : ∃ R : St → Prop, R = fun st => ∃ x y : Nat, st.fr 0 = natI x ∧ st.fr 1 = natI y ∧ x + y = a + b ∧ (enc B32 y).length ≤ (enc B32 x).length ∧ (enc B32 x).length ≤ 1099511627776 ∧ st.h = (fun _ => Blk.dead) ∧ st.nx = 0 := ⟨_, rfl⟩
 refine Do R ?_ ?_
 ·by_cases hl : (enc B32 a).length < (enc B32 b).length
  ·simp (disch := omega) only [go_sem]
   rw [hR]; exact ⟨b, a, by simp [AA, natI], by simp [AA, natI], zO, zO, hb, rfl, rfl⟩
  ·simp (disch := omega) only [go_sem]
   rw [hR]; exact ⟨a, b, by simp [AA, natI], by simp [AA, natI], zO, zO, ha, rfl, rfl⟩
 rintro ⟨fr, h, nx⟩ hst
 rw [hR] at hst
 obtain ⟨x, y, h0, h1, hxy, hle, hxl, e1, e2⟩ := hst
 simp only at h0 h1 e1 e2
 subst e1 e2
 rw [← hxy] at hQ
 clear hxy ha hb
 obtain ⟨n, hn⟩ : ∃ n, (enc B32 x).length = n := ⟨_, rfl⟩
 rw [hn] at hle hxl
 simp only [natI] at h0 h1
 simp (disch := omega) only [go_sem, h0, h1, hn, reach]
 refine AM (fun (p : Nat × Nat × List Nat) st => st.fr 0 = natI x ∧ st.fr 1 = natI y ∧ st.fr 5 = .ref 0 (n + 1) 0 (n + 1) ∧ st.fr 6 = .int .u64 p.2.1 ∧ st.fr 20 = .int .i64 n ∧ st.fr 21 = .int .i64 p.1 ∧
   st.h 0 = ⟨132, natA .u32 p.2.2, true, true, true⟩ ∧ p.2.2.length = n + 1 ∧ p.1 ≤ n ∧ p.2.1 ≤ 1 ∧ (∀ q ∈ p.2.2, q < B32) ∧ val B32 p.2.2 + B32 ^ p.1 * p.2.1 = val B32 ((enc B32 x).take p.1) + val B32 ((enc B32 y).take p.1) ∧ p.2.2.drop p.1 = List.replicate (n + 1 - p.1) 0) (fun p => n - p.1) (0, 0, List.replicate (n + 1) 0)
  ⟨by simp [AA, h0, natI], by simp [AA, h1, natI], zU, zU, zU, zU, zU, zS, zS, zS, EZ AJ, by simp [Dt, val], zS⟩ ?_
 rintro ⟨i, c, ds⟩ ⟨fr, h, nx⟩ ⟨h0, h1, h5, h6, h20, h21, hb, hlen, hi, hc, hq, hv, hz⟩ J hJ
 simp only [natI] at h0 h1 h5 h6 h20 h21 hb hlen hi hc hq hv hz
 have hzi : ∀ k, i ≤ k → k ≤ n → ds[k]? = some 0 := by
  intro k hk hk2
  have := congrArg (·[k - i]?) hz
  simp only [List.getElem?_drop, List.getElem?_replicate] at this
  rw [if_pos zO, show i + (k - i) = k by omega] at this; exact this
 by_cases hin : i < n
 ·obtain ⟨u, hu⟩ := AI (xs := enc B32 x) (i := i) zO
  have huB : u < B32 := Ad AJ x u (List.mem_of_getElem? hu)
  have hvu := AT (B := B32) hu
  obtain ⟨w, hw⟩ : ∃ w, (enc B32 y).getD i 0 = w := ⟨_, rfl⟩
  have hwB : w < B32 := by
   rw [← hw, List.getD_eq_getElem?_getD]
   by_cases h : i < (enc B32 y).length
   ·rw [List.getElem?_eq_getElem h]; exact Ad AJ y _ (List.getElem_mem h)
   ·rw [List.getElem?_eq_none zO]; decide
  have hvw := Dj (B := B32) (xs := enc B32 y) (i := i)
  rw [hw] at hvw
  obtain ⟨s1, s2, s3⟩ := Eb AJ hc huB hwB
  have hset := fun v => DC (B := B32) (v := v) (hzi i (Nat.le_refl _) zO)
  have key : ∀ st : St, st.fr 0 = natI x → st.fr 1 = natI y → st.fr 5 = .ref 0 (n + 1) 0 (n + 1) → st.fr 6 = .int .u64 ((c + u + w) / 4294967296 : Nat) → st.fr 20 = .int .i64 n → st.fr 21 = .int .i64 ((i + 1 : Nat) : Int) →
    st.h 0 = ⟨132, natA .u32 (ds.set i ((c + u + w) % 4294967296)), true, true, true⟩ → J st := by
   intro st k0 k1 k5 k6 k20 k21 kh
   refine hJ (i + 1, (c + u + w) / B32, ds.set i ((c + u + w) % B32)) st ⟨k0, k1, k5, k6, k20, k21, kh, by simp [hlen], hin, s1, CZ hq s2, ?_, ?_⟩ zT
   ·have h1 := hset ((c + u + w) % B32)
    simp only [Nat.mul_zero, Nat.add_zero] at h1
    have h2 : B32 ^ i * ((c + u + w) % B32 + B32 * ((c + u + w) / B32)) = B32 ^ i * (c + u + w) := by rw [s3]
    rw [Nat.mul_add, Nat.mul_add, Nat.mul_add, ← Nat.mul_assoc] at h2
    simp only [hvu, hvw, Nat.pow_succ]; omega
   ·simp only
    rw [List.drop_set_of_lt zO]
    have := congrArg (List.drop 1) hz
    rw [List.drop_drop, List.drop_replicate] at this
    rw [this]; congr 1
  clear hJ hv hz hset s1 s2 s3 hvu hvw
  simp only [hB] at huB hwB
  have hdl : (natA .u32 ds).length = n + 1 := by rw [AF, hlen]
  have hdi := hzi i (Nat.le_refl _) zO
  by_cases hiy : i < (enc B32 y).length
  ·have hyw : (enc B32 y)[i]? = some w := by rw [List.getElem?_eq_getElem hiy, ← hw, List.getD_eq_getElem?_getD, List.getElem?_eq_getElem hiy]; rfl
   simp (disch := omega) only [go_sem, h0, h1, h5, h6, h20, h21, hu, hyw, hb, hlen, hdl, hdi, BH, BJ]
   exact key _ (by simp [AA, h0, natI] <;> omega) (by simp [AA, h1, natI] <;> omega) (by simp [AA, h5] <;> omega) zV (by simp [AA, h20] <;> omega) zV zV
  ·have hw0 : w = 0 := by rw [← hw, List.getD_eq_getElem?_getD, List.getElem?_eq_none zO]; rfl
   subst hw0
   simp (disch := omega) only [go_sem, h0, h1, h5, h6, h20, h21, hu, hb, hlen, hdl, hdi, BH, BJ]
   exact key _ (by simp [AA, h0, natI] <;> omega) (by simp [AA, h1, natI] <;> omega) (by simp [AA, h5] <;> omega) (by simp [AA, Nat.add_zero] <;> omega) (by simp [AA, h20] <;> omega) zV (by simp [AA, Nat.add_zero] <;> omega)
 ·obtain rfl : i = n := by omega
  have ex : (enc B32 x).take i = enc B32 x := List.take_of_length_le zO
  have ey : (enc B32 y).take i = enc B32 y := List.take_of_length_le zO
  rw [ex, ey, Aa AJ, Aa AJ] at hv
  have hset := DC (B := B32) (v := c) (hzi i (Nat.le_refl _) (Nat.le_refl _))
  have hdi := hzi i (Nat.le_refl _) (Nat.le_refl _)
  have hdl : (natA .u32 ds).length = i + 1 := by rw [AF, hlen]
  simp (disch := omega) only [go_sem, h0, h1, h5, h6, h20, h21, hb, hlen, hdl, hn, hdi]
  refine DB (Ea ((ds.set i c).take (i + 1)) zW) Cw (by simp [evA, AA]) (B3 (id := 0) (st := ⟨_, _, _⟩) (by simp only [AA, ↓reduceIte]) (by simp [hlen]) (Nat.le_refl _)) (by simp [AA, hb]) zP zP zS ?_
  simp (disch := omega) only [go_sem]
  have e3 : trimZ ((ds.set i c).take (i + 1)) = enc B32 (x + y) := by
   rw [List.take_of_length_le (by simp [hlen]), A1 AJ (CZ hq (by rw [hB]; omega))]
   congr 1; simp only [Nat.mul_zero, Nat.add_zero] at hset; omega
  rw [e3, ← hQ]
  exact AG (.inl rfl) rfl (by simp only [AA, ↓reduceIte, natI]) zS
theorem Hf {B i l a b : Nat} (ha : a < B ^ i) (hb : b < B ^ l) : a * b < B ^ (i + l) := by
 rw [Nat.pow_add]; exact Nat.mul_lt_mul'' ha hb
theorem Kv (a b : Nat) (ha : (enc B32 a).length ≤ 1099511627776) (hb : (enc B32 b).length ≤ 1099511627776) : CallOk Tryz.prog 77 [natI a, natI b] (natI (a * b)) [] := by
 (refine AB (W := fun g => g == 105) false AS Tryz.func77 rfl zK zL (AC ?_); generalize hQ : Post Tryz.prog Tryz.f77 _ _ _ _ _ = Q; simp only [stIn, matL, matA, st00, natI])
 have hB : B32 = 4294967296 := rfl
 obtain ⟨n, hn⟩ : ∃ n, (enc B32 a).length = n := ⟨_, rfl⟩
 obtain ⟨l, hl⟩ : ∃ l, (enc B32 b).length = l := ⟨_, rfl⟩
 rw [hn] at ha; rw [hl] at hb
 have hblt : b < B32 ^ l := by rw [← hl]; exact Aw AJ
 simp (disch := omega) only [go_sem, hn, hl, reach]
 refine AM (fun (p : Nat × List Nat) st => st.fr 0 = natI a ∧ st.fr 1 = natI b ∧ st.fr 5 = .ref 0 (n + l) 0 (n + l) ∧ st.fr 17 = natI a ∧ st.fr 18 = .int .i64 n ∧ st.fr 19 = .int .i64 p.1 ∧
   st.h 0 = ⟨132, natA .u32 p.2, true, true, true⟩ ∧ p.2.length = n + l ∧ p.1 ≤ n ∧ (∀ q ∈ p.2, q < B32) ∧ val B32 p.2 = val B32 ((enc B32 a).take p.1) * b) (fun p => n - p.1) (0, List.replicate (n + l) 0)
  ⟨(by simp [AA, natI] <;> omega), (by simp [AA, natI] <;> omega), zV, (by simp [AA, natI] <;> omega), zV, zV, zV, zS, zS, EZ AJ, by simp [Dt, val]⟩ ?_
 rintro ⟨i, ds⟩ ⟨fr, h, nx⟩ ⟨h0, h1, h5, h17, h18, h19, hm, hlen, hi, hq, hv⟩ J hJ
 simp only [natI] at h0 h1 h5 h17 h18 h19 hm hlen hi hq hv
 have hdl : (natA .u32 ds).length = n + l := by rw [AF, hlen]
 by_cases hin : i < n
 ·obtain ⟨u, hu⟩ := AI (xs := enc B32 a) (i := i) zO
  have huB : u < B32 := Ad AJ a u (List.mem_of_getElem? hu)
  have hvu := AT (B := B32) hu
  have hlow : val B32 ds < B32 ^ (i + l) := by
   rw [hv]
   refine Hf ?_ hblt
   have := A9 (B := B32) (xs := (enc B32 a).take i) (fun d hd => Ad AJ a d (List.mem_of_mem_take hd))
   rwa [show ((enc B32 a).take i).length = i by simp; omega] at this
  simp (disch := omega) only [go_sem, h0, h1, h5, h17, h18, h19, hm, hdl, hu, hl]
  refine AM (fun (p : Nat × Nat × List Nat) st => st.fr 0 = natI a ∧ st.fr 1 = natI b ∧ st.fr 5 = .ref 0 (n + l) 0 (n + l) ∧ st.fr 17 = natI a ∧ st.fr 18 = .int .i64 n ∧ st.fr 19 = .int .i64 i ∧ st.fr 6 = .int .i64 i ∧ st.fr 7 = .int .u32 u ∧
    st.fr 8 = .int .u64 p.2.1 ∧ st.fr 24 = natI b ∧ st.fr 25 = .int .i64 l ∧ st.fr 26 = .int .i64 p.1 ∧
    st.h 0 = ⟨132, natA .u32 p.2.2, true, true, true⟩ ∧ p.2.2.length = n + l ∧ p.1 ≤ l ∧ p.2.1 < B32 ∧ (∀ q ∈ p.2.2, q < B32) ∧ val B32 p.2.2 + B32 ^ (i + p.1) * p.2.1 = val B32 ds + B32 ^ i * u * val B32 ((enc B32 b).take p.1) ∧ p.2.2.drop (i + p.1) = ds.drop (i + p.1)) (fun p => l - p.1) (0, 0, ds)
   ⟨(by simp [AA, h0, natI] <;> omega), (by simp [AA, h1, natI] <;> omega), (by simp [AA, h5] <;> omega), (by simp [AA, h17, natI] <;> omega), (by simp [AA, h18] <;> omega), (by simp [AA, h19] <;> omega), zV, zV, zV, (by simp [AA, natI] <;> omega), zV, zV, (by simp [AA, hm] <;> omega), hlen, zS, by simp [B32], hq, by simp [val], rfl⟩ ?_
  clear hm h0 h1 h5 h17 h18 h19 hdl
  rintro ⟨k, c, es⟩ ⟨fr, h, nx⟩ ⟨h0, h1, h5, h17, h18, h19, h6, h7, h8, h24, h25, h26, hm, hel, hk, hc, hp, hw, hd⟩ J' hJ'
  simp only [natI] at h0 h1 h5 h17 h18 h19 h6 h7 h8 h24 h25 h26 hm hel hk hc hp hw hd
  have hdl : (natA .u32 es).length = n + l := by rw [AF, hel]
  by_cases hkl : k < l
  ·obtain ⟨y, hy⟩ := AI (xs := enc B32 b) (i := k) zO
   obtain ⟨o, ho⟩ := AI (xs := es) (i := i + k) zO
   have hyB : y < B32 := Ad AJ b y (List.mem_of_getElem? hy)
   have hoB : o < B32 := hp o (List.mem_of_getElem? ho)
   obtain ⟨s1, s2, s3⟩ := Kt hc huB hyB hoB
   have hset := fun v => DC (B := B32) (v := v) ho
   have hvy := AT (B := B32) hy
   have key : ∀ st : St, st.fr 0 = natI a → st.fr 1 = natI b → st.fr 5 = .ref 0 (n + l) 0 (n + l) → st.fr 17 = natI a → st.fr 18 = .int .i64 n → st.fr 19 = .int .i64 i → st.fr 6 = .int .i64 i → st.fr 7 = .int .u32 u →
     st.fr 8 = .int .u64 ((c + (u * y + o)) / 4294967296 : Nat) → st.fr 24 = natI b → st.fr 25 = .int .i64 l → st.fr 26 = .int .i64 ((k + 1 : Nat) : Int) →
     st.h 0 = ⟨132, natA .u32 (es.set (i + k) ((c + (u * y + o)) % 4294967296)), true, true, true⟩ → J' st := by
    intro st k0 k1 k5 k17 k18 k19 k6 k7 k8 k24 k25 k26 kh
    refine hJ' (k + 1, (c + (u * y + o)) / B32, es.set (i + k) ((c + (u * y + o)) % B32)) st ⟨k0, k1, k5, k17, k18, k19, k6, k7, k8, k24, k25, k26, kh, by simp [hel], hkl, s1, CZ hp s2, ?_, ?_⟩ zT
    ·have h1 := hset ((c + (u * y + o)) % B32)
     have h2 : B32 ^ (i + k) * ((c + (u * y + o)) % B32 + B32 * ((c + (u * y + o)) / B32)) = B32 ^ (i + k) * (c + (u * y + o)) := by rw [Nat.mod_add_div]
     have h3 : B32 ^ i * u * (B32 ^ k * y) = B32 ^ (i + k) * (u * y) := by rw [Nat.pow_add, Nat.mul_assoc, Nat.mul_assoc]; congr 1; rw [Nat.mul_left_comm]
     rw [Nat.mul_add, Nat.mul_add, Nat.mul_add, ← Nat.mul_assoc] at h2
     simp only [hvy]
     rw [Nat.mul_add, h3, ← Nat.add_assoc i k 1, Nat.pow_succ]; omega
    ·simp only
     rw [List.drop_set_of_lt zO]
     have := congrArg (List.drop 1) hd
     rw [List.drop_drop, List.drop_drop] at this
     exact this
   clear hJ hJ' hw hd hset s1 s2 hvy hv hlow hvu
   simp only [hB] at huB hyB hoB hc s3
   obtain ⟨z, hz⟩ : ∃ z, u * y = z := ⟨_, rfl⟩
   rw [hz] at s3 key
   simp (disch := omega) only [go_sem, h0, h1, h5, h17, h18, h19, h6, h7, h8, h24, h25, h26, hm, hdl, hel, hu, hy, ho, hz, BH, BJ]
   exact key _ (by simp [AA, h0, natI] <;> omega) (by simp [AA, h1, natI] <;> omega) (by simp [AA, h5] <;> omega) (by simp [AA, h17, natI] <;> omega) (by simp [AA, h18] <;> omega) (by simp [AA, h19] <;> omega) (by simp [AA, h6] <;> omega) (by simp [AA, h7] <;> omega) zV (by simp [AA, h24, natI] <;> omega) (by simp [AA, h25] <;> omega) zV zV
  ·obtain rfl : k = l := by omega
   have eb : (enc B32 b).take k = enc B32 b := List.take_of_length_le zO
   rw [eb, Aa AJ] at hw
   obtain ⟨o, ho⟩ := AI (xs := es) (i := i + k) zO
   have ho' : ds[i + k]? = some o := by
    have := congrArg (·[0]?) hd
    simp only [List.getElem?_drop, Nat.add_zero] at this; rw [← this]; exact ho
   obtain rfl : o = 0 := Jf AJ hq ho' hlow
   have hset := DC (B := B32) (v := c) ho
   have key : ∀ st : St, st.fr 0 = natI a → st.fr 1 = natI b → st.fr 5 = .ref 0 (n + k) 0 (n + k) → st.fr 17 = natI a → st.fr 18 = .int .i64 n → st.fr 19 = .int .i64 ((i + 1 : Nat) : Int) →
     st.h 0 = ⟨132, natA .u32 (es.set (i + k) c), true, true, true⟩ → J st := by
    intro st k0 k1 k5 k17 k18 k19 kh
    refine hJ (i + 1, es.set (i + k) c) st ⟨k0, k1, k5, k17, k18, k19, kh, by simp [hel], hin, CZ hp hc, ?_⟩ zT
    simp only [Nat.mul_zero, Nat.add_zero] at hset
    simp only
    rw [hset, hw, hvu, hv, Nat.add_mul]
   clear hJ hw hd hset hv hlow hvu
   simp only [hB] at hc
   simp (disch := omega) only [go_sem, h0, h1, h5, h17, h18, h19, h6, h7, h8, h24, h25, h26, hm, hdl, hel, ho, hl]
   exact key _ (by simp [AA, h0, natI] <;> omega) (by simp [AA, h1, natI] <;> omega) (by simp [AA, h5] <;> omega) (by simp [AA, h17, natI] <;> omega) (by simp [AA, h18] <;> omega) zV zV
 ·obtain rfl : i = n := by omega
  have ex : (enc B32 a).take i = enc B32 a := List.take_of_length_le zO
  rw [ex, Aa AJ] at hv
  simp (disch := omega) only [go_sem, h0, h1, h5, h17, h18, h19, hm, hdl]
  refine DB (Ea (ds.take (i + l)) zW) Cw (by simp [evA, AA]) (B3 (id := 0) (st := ⟨_, _, _⟩) (by simp only [hm]) (by simp [hlen]) (Nat.le_refl _)) (by simp [AA, hm]) zP zP zS ?_
  simp (disch := omega) only [go_sem]
  have e3 : trimZ (ds.take (i + l)) = enc B32 (a * b) := by
   rw [List.take_of_length_le (by simp [hlen]), A1 AJ hq, hv]
  rw [e3, ← hQ]
  exact AG (.inl rfl) rfl (by simp only [AA, ↓reduceIte, natI]) zS
theorem Sz : callable Tryz.prog 160 = true := by kernel_rfl
theorem GN : callable Tryz.prog 145 = true := by kernel_rfl
theorem Hg : callable Tryz.prog 146 = true := by kernel_rfl
def len2 (x : Nat) : Nat := if x = 0 then 0 else Nat.log2 x + 1
theorem S1 {x n : Nat} (h1 : 2 ^ n ≤ x) (h2 : x < 2 ^ (n + 1)) : len2 x = n + 1 := by
 have h0 : x ≠ 0 := by have := Nat.pow_pos (n := n) (show 0 < 2 by omega); omega
 rw [len2, if_neg h0]
 have a := (Nat.le_log2 h0).2 h1
 have b := (Nat.log2_lt h0).2 h2
 omega
theorem E3 {x : Nat} (h : x ≠ 0) : 2 ^ (len2 x - 1) ≤ x ∧ x < 2 ^ len2 x ∧ 0 < len2 x := by
 rw [len2, if_neg h]
 exact ⟨Nat.log2_self_le h, Nat.lt_log2_self, zO⟩
theorem Kw {x k : Nat} (h : 2 ^ k ≤ x) : len2 x = len2 (x / 2 ^ k) + k := by
 have hp := Nat.pow_pos (n := k) (show 0 < 2 by omega)
 have h0 : x / 2 ^ k ≠ 0 := by
  have := Nat.div_pos h hp; omega
 obtain ⟨a, b, c⟩ := E3 h0
 obtain ⟨m, hm⟩ : ∃ m, len2 (x / 2 ^ k) = m + 1 := ⟨len2 (x / 2 ^ k) - 1, zO⟩
 rw [hm] at a b ⊢
 rw [Nat.add_sub_cancel, Nat.le_div_iff_mul_le hp, ← Nat.pow_add] at a
 rw [Nat.div_lt_iff_lt_mul hp, ← Nat.pow_add] at b
 rw [show m + 1 + k = (m + k) + 1 by omega] at b ⊢
 exact S1 a b
theorem MB (x : Nat) (h : x < 256) : len2 x < 9 := by
 by_cases h0 : x = 0
 ·subst h0; decide
 ·obtain ⟨a, _, c⟩ := E3 h0
  rcases Nat.lt_or_ge (len2 x) 9 with h' | h'
  ·exact h'
  ·have := Nat.pow_le_pow_right (show 0 < 2 by omega) (show 8 ≤ len2 x - 1 by omega); omega
theorem S2 (x : Nat) (hx : x < 4294967296) : CallOk Tryz.prog 160 [.int .u32 x] (.int .i64 (len2 x)) [] := by
 (refine AB (W := fun _ => false) false AS Tryz.func160 rfl zK zL (AC ?_); generalize hQ : Post Tryz.prog Tryz.f160 _ _ _ _ _ = Q; simp only [stIn, matL, matA, st00])
 simp (disch := omega) only [go_sem, ↓Ci]; try unfold goS
 obtain ⟨R, hR⟩ : ∃ R : St → Prop, R = fun st => ∃ y n : Nat, y < 65536 ∧ n ≤ 16 ∧ st.fr 0 = .int .u32 y ∧ st.fr 2 = .int .i64 n ∧ len2 x = len2 y + n := ⟨_, rfl⟩
 refine Do R ?_ ?_
 ·by_cases hb : 65536 ≤ x
  ·have : len2 x = len2 (x / 65536) + 16 := Kw (x := x) (k := 16) zO
   simp (disch := omega) only [go_sem, QO]
   rw [hR]; exact ⟨x / 65536, 16, zO, zO, zV, zV, this⟩
  ·simp (disch := omega) only [go_sem]
   rw [hR]; exact ⟨x, 0, zO, zO, zV, zV, zO⟩
 rintro ⟨fr, h, nx⟩ hst
 rw [hR] at hst
 obtain ⟨y, n, hy, hn, h0, h2, hlen⟩ := hst
 simp only at h0 h2
 clear hR
 simp (disch := omega) only [go_sem, ↓Ci, h0, h2]; try unfold goS
 obtain ⟨R, hR⟩ : ∃ R : St → Prop, R = fun st => ∃ y n : Nat, y < 256 ∧ n ≤ 24 ∧ st.fr 0 = .int .u32 y ∧ st.fr 2 = .int .i64 n ∧ len2 x = len2 y + n := ⟨_, rfl⟩
 refine Do R ?_ ?_
 ·by_cases hb : 256 ≤ y
  ·have : len2 y = len2 (y / 256) + 8 := Kw (x := y) (k := 8) zO
   simp (disch := omega) only [go_sem, h0, h2, QO]
   rw [hR]; exact ⟨y / 256, n + 8, zO, zO, zV, zV, zO⟩
  ·simp (disch := omega) only [go_sem, h0, h2]
   rw [hR]; exact ⟨y, n, zO, zO, (by simp [AA, h0] <;> omega), (by simp [AA, h2] <;> omega), zO⟩
 rintro ⟨fr, h, nx⟩ hst
 rw [hR] at hst
 obtain ⟨y, n, hy, hn, h0, h2, hlen⟩ := hst
 simp only at h0 h2
 clear hR
 simp (disch := omega) only [go_sem, ↓OS, h0, h2]; try unfold wposI
 refine VM (n := y) (b := (len2 y).toUInt8) (by simp [evA, AA, h0]; rfl) Io ?_ ?_
 ·clear h0 hlen; revert y; decide +kernel
 ·have h8 := MB y hy
  have e : ((len2 y).toUInt8).toNat = len2 y := by simp; omega
  simp (disch := omega) only [go_sem, h2, e]
  rw [← hQ]
  exact AG (.inl rfl) rfl (by simp only [AA, ↓reduceIte]; rw [hlen, Nat.add_comm]) rfl
theorem GO (x : Nat) (hx : x < 4294967296) (h0 : x ≠ 0) : CallOk Tryz.prog 145 [.int .u32 x] (.int .i64 ((32 - len2 x : Nat) : Int)) [] := by
 (refine AB (W := fun _ => false) false AS Tryz.func145 rfl zK zL (AC ?_); generalize hQ : Post Tryz.prog Tryz.f145 _ _ _ _ _ = Q; simp only [stIn, matL, matA, st00])
 have hl : len2 x ≤ 32 := by
  obtain ⟨a, b, c⟩ := E3 h0
  rcases Nat.lt_or_ge 32 (len2 x) with h | h
  ·have := Nat.pow_le_pow_right (show 0 < 2 by omega) (show 32 ≤ len2 x - 1 by omega); omega
  ·exact h
 simp (disch := omega) only [go_sem]
 refine AD (S2 x hx) Sz zE zP zP ?_
 have e : 32 - (len2 x : Int) = ((32 - len2 x : Nat) : Int) := by omega
 simp (disch := omega) only [go_sem, e]
 rw [← hQ]
 exact AG (.inl rfl) rfl zV rfl
theorem QS {x : Nat} (hx : x < 4294967296) (h0 : x ≠ 0) : 2147483648 ≤ x * 2 ^ (32 - len2 x) ∧ x * 2 ^ (32 - len2 x) < 4294967296 ∧ 32 - len2 x ≤ 31 := by
 obtain ⟨a, b, c⟩ := E3 h0
 have hl : len2 x ≤ 32 := by
  rcases Nat.lt_or_ge 32 (len2 x) with h | h
  ·have := Nat.pow_le_pow_right (show 0 < 2 by omega) (show 32 ≤ len2 x - 1 by omega); omega
  ·exact h
 have h1 : 2 ^ (len2 x - 1) * 2 ^ (32 - len2 x) ≤ x * 2 ^ (32 - len2 x) := Nat.mul_le_mul_right _ a
 have h2 : x * 2 ^ (32 - len2 x) < 2 ^ len2 x * 2 ^ (32 - len2 x) := Nat.mul_lt_mul_of_pos_right b (Nat.pow_pos zO)
 rw [← Nat.pow_add] at h1 h2
 rw [show len2 x - 1 + (32 - len2 x) = 31 by omega] at h1
 rw [show len2 x + (32 - len2 x) = 32 by omega] at h2
 omega
theorem VO {by' o z : Nat} (h : o < 2 ^ by') : o ||| (2 ^ by' * z) = o + 2 ^ by' * z := by
 rw [Nat.or_comm, ← Nat.two_pow_add_eq_or_of_lt h, Nat.add_comm]
theorem Iu {s x : Nat} (hs : s ≤ 31) : x * 2 ^ s % 4294967296 = 2 ^ s * (x % 2 ^ (32 - s)) := by
 have : (4294967296 : Nat) = 2 ^ s * 2 ^ (32 - s) := by rw [← Nat.pow_add, show s + (32 - s) = 32 by omega]
 rw [this, Nat.mul_comm x, Nat.mul_mod_mul_left]
def shiftL (a s : Nat) : List Nat := enc B32 (a * 2 ^ s) ++ List.replicate ((enc B32 a).length + 1 - (enc B32 (a * 2 ^ s)).length) 0
theorem MC {B i x S y o vd v1 v2 T : Nat} (e1 : v1 + B ^ i * o = vd + B ^ i * (o + y % B)) (e2 : v2 + B ^ (i + 1) * 0 = v1 + B ^ (i + 1) * (y / B)) (hy : x * S = y) (hv : vd = T * S) : v2 = (T + B ^ i * x) * S := by
 have e3 : B ^ i * (y % B + B * (y / B)) = B ^ i * y := by rw [Nat.mod_add_div]
 rw [Nat.mul_add] at e1 e3
 rw [Nat.mul_zero, Nat.add_zero, Nat.pow_succ, Nat.mul_assoc] at e2
 rw [e2, Nat.add_mul, ← hv, Nat.mul_assoc, hy, ← e3]; omega
theorem Iv (a s : Nat) (ha : (enc B32 a).length ≤ 1099511627776) (hs : s ≤ 31) : CallOk Tryz.prog 146 [natI a, .int .i64 s] (.own 132 (natA .u32 (shiftL a s)) [] true) [] := by
 (refine AB (W := fun _ => false) true AS Tryz.func146 rfl zK zL (AC ?_); generalize hQ : Post Tryz.prog Tryz.f146 _ _ _ _ _ = Q; simp only [stIn, matL, matA, st00, natI])
 have hB : B32 = 4294967296 := rfl
 obtain ⟨n, hn⟩ : ∃ n, (enc B32 a).length = n := ⟨_, rfl⟩
 rw [hn] at ha
 have hS : 2 ^ s ≤ 2147483648 := Nat.pow_le_pow_right (show 0 < 2 by omega) hs
 have hS0 : 0 < 2 ^ s := Nat.pow_pos zO
 simp (disch := omega) only [go_sem, hn, reach]
 refine AM (fun (p : Nat × List Nat) st => st.fr 1 = .int .i64 s ∧ st.fr 5 = .ref 0 (n + 1) 0 (n + 1) ∧ st.fr 13 = natI a ∧ st.fr 14 = .int .i64 n ∧ st.fr 15 = .int .i64 p.1 ∧
   st.h 0 = ⟨132, natA .u32 p.2, true, true, true⟩ ∧ p.2.length = n + 1 ∧ p.1 ≤ n ∧ (∀ q ∈ p.2, q < B32) ∧ val B32 p.2 = val B32 ((enc B32 a).take p.1) * 2 ^ s) (fun p => n - p.1) (0, List.replicate (n + 1) 0)
  ⟨zV, zV, (by simp [AA, natI] <;> omega), zV, zV, zV, zS, zS, EZ AJ, by simp [Dt, val]⟩ ?_
 rintro ⟨i, ds⟩ ⟨fr, h, nx⟩ ⟨h1, h5, h13, h14, h15, hm, hlen, hi, hq, hv⟩ J hJ
 simp only [natI] at h1 h5 h13 h14 h15 hm hlen hi hq hv
 have hdl : (natA .u32 ds).length = n + 1 := by rw [AF, hlen]
 by_cases hin : i < n
 ·obtain ⟨x, hx⟩ := AI (xs := enc B32 a) (i := i) zO
  have hxB : x < B32 := Ad AJ a x (List.mem_of_getElem? hx)
  have hvx := AT (B := B32) hx
  have htk : val B32 ((enc B32 a).take i) < B32 ^ i := by
   have := A9 (B := B32) (xs := (enc B32 a).take i) (fun d hd => Ad AJ a d (List.mem_of_mem_take hd))
   rwa [show ((enc B32 a).take i).length = i by simp; omega] at this
  have hlow : val B32 ds < B32 ^ i * 2 ^ s := by rw [hv]; exact Nat.mul_lt_mul_of_pos_right htk hS0
  obtain ⟨o, ho⟩ := AI (xs := ds) (i := i) zO
  have hoS : o < 2 ^ s := by
   have h2 := Nat.div_lt_of_lt_mul hlow
   rw [GL AJ hq ho]
   exact Nat.lt_of_le_of_lt (Nat.mod_le _ _) h2
  have hz : ds[i + 1]? = some 0 := by
   obtain ⟨z, hz⟩ := AI (xs := ds) (i := i + 1) zO
   rw [hz, Jf AJ hq hz (Nat.lt_trans hlow (by rw [Nat.pow_succ]; exact Nat.mul_lt_mul_of_pos_left (by rw [hB]; omega) (Nat.pow_pos zD)))]
  obtain ⟨y, hy⟩ : ∃ y, x * 2 ^ s = y := ⟨_, rfl⟩
  have hyB : y / 4294967296 < 2 ^ s := by
   rw [Nat.div_lt_iff_lt_mul zO, ← hy, Nat.mul_comm (2 ^ s)]; exact Nat.mul_lt_mul_of_pos_right (by rw [← hB]; exact hxB) hS0
  have hor : o ||| y % 4294967296 = o + y % 4294967296 := by rw [← hy, Iu hs, VO hoS]
  have hmod : y % 4294967296 ≤ 4294967296 - 2 ^ s := by
   rw [← hy, Iu hs]
   have h1 : x % 2 ^ (32 - s) + 1 ≤ 2 ^ (32 - s) := Nat.mod_lt _ (Nat.pow_pos zO)
   have h2 := Nat.mul_le_mul_left (2 ^ s) h1
   rw [← Nat.pow_add, show s + (32 - s) = 32 by omega, Nat.mul_add, Nat.mul_one] at h2
   have : (2 : Nat) ^ 32 = 4294967296 := by decide
   omega
  have key : ∀ st : St, st.fr 1 = .int .i64 s → st.fr 5 = .ref 0 (n + 1) 0 (n + 1) → st.fr 13 = natI a → st.fr 14 = .int .i64 n → st.fr 15 = .int .i64 ((i + 1 : Nat) : Int) →
    st.h 0 = ⟨132, natA .u32 ((ds.set i (o + y % 4294967296)).set (i + 1) (y / 4294967296)), true, true, true⟩ → J st := by
   intro st k1 k5 k13 k14 k15 kh
   rw [← hB] at kh hmod hyB
   have e1 := DC (B := B32) (v := o + y % B32) ho
   have e2 := DC (B := B32) (xs := ds.set i (o + y % B32)) (p := i + 1) (o := 0) (v := y / B32) (by rw [List.getElem?_set_ne zO]; exact hz)
   have hlt : o + y % B32 < B32 := by omega
   have hlt2 : y / B32 < B32 := by omega
   clear hor hB
   refine hJ (i + 1, (ds.set i (o + y % B32)).set (i + 1) (y / B32)) st ⟨k1, k5, k13, k14, k15, kh, by simp [hlen], hin, CZ (CZ hq hlt) hlt2, ?_⟩ zT
   simp only [hvx]
   exact MC e1 e2 hy hv
  clear hJ hv hlow htk hvx hq
  simp only [hB] at hxB
  have hyb : y < 18446744073709551616 := by omega
  obtain ⟨S, hSS⟩ : ∃ S, 2 ^ s = S := ⟨_, rfl⟩
  rw [hSS] at hS hS0 hoS hyB hmod hy
  have hmm : y % 4294967296 < 4294967296 := by omega
  have hd : y / 4294967296 < 4294967296 := by omega
  have ho2 : o < 4294967296 := by omega
  have hl1 : (natA .u32 (ds.set i (o + y % 4294967296))).length = n + 1 := by rw [AF, List.length_set, hlen]
  have hz' : (ds.set i (o + y % 4294967296))[i + 1]? = some 0 := by rw [List.getElem?_set_ne zO]; exact hz
  simp (disch := omega) only [go_sem, h1, h5, h13, h14, h15, hm, hdl, hlen, hx, ho, YK, hSS, hy, hl1, hz', BH, BJ, ↓Sx, hor]
  exact key _ (by simp [AA, h1] <;> omega) (by simp [AA, h5] <;> omega) (by simp [AA, h13, natI] <;> omega) (by simp [AA, h14] <;> omega) zV zV
 ·obtain rfl : i = n := by omega
  have ex : (enc B32 a).take i = enc B32 a := List.take_of_length_le zO
  rw [ex, Aa AJ] at hv
  simp (disch := omega) only [go_sem, h1, h5, h13, h14, h15, hm, hdl]
  have e3 : ds = shiftL a s := by
   rw [Jg AJ hq, hv, hlen, shiftL, hn]
  rw [← hQ]
  exact Fl (id := 0) (n := i + 1) (len := i + 1) (.inl rfl) rfl zV (by simp [hm]) (by simp [hm, AF, hlen]) (by simp [hm]) (by simp [hm]) (Nat.le_refl _) (by simp only [hm, Ay]; rw [List.take_of_length_le zO, e3]) (by simp [hm, AF, hlen]) (by simp [hm]) (by simp [Ae]) rfl
theorem Kx : callable Tryz.prog 147 = true := by kernel_rfl
theorem Of {B c l x t y : Nat} (hc : c < B) (ht : t < B) (hy : y < B) : (c + t * y) / B < B ∧ t * y ≤ (B - 1) * (B - 1) := by
 have h1 : t * y ≤ (B - 1) * (B - 1) := Nat.mul_le_mul zO zO
 refine ⟨?_, h1⟩
 rw [Nat.div_lt_iff_lt_mul zO]
 obtain ⟨b, rfl⟩ : ∃ b, B = b + 1 := ⟨B - 1, zO⟩
 simp only [Nat.add_sub_cancel] at h1
 have : (b + 1) * (b + 1) = b * b + 2 * b + 1 := by rw [Nat.mul_add, Nat.add_mul]; omega
 omega
theorem QT {B i c l x t y e l' D T W V : Nat} (h : D + t * V = W + B ^ i * (c + l)) (he : e + (c + t * y) % B + l = x + B * l') :
  (D + B ^ i * e) + t * (V + B ^ i * y) = (W + B ^ i * x) + B ^ (i + 1) * ((c + t * y) / B + l') := by
 have h1 : B ^ i * (e + (c + t * y) % B + l + B * ((c + t * y) / B)) = B ^ i * (x + B * l' + B * ((c + t * y) / B)) := by rw [he]
 have h2 : e + (c + t * y) % B + l + B * ((c + t * y) / B) = e + (c + t * y) + l := by have := Nat.mod_add_div (c + t * y) B; omega
 rw [h2] at h1
 have h3 : B ^ (i + 1) * ((c + t * y) / B + l') = B ^ i * (B * l' + B * ((c + t * y) / B)) := by rw [← Nat.mul_add, Nat.pow_succ, Nat.mul_assoc, Nat.add_comm l']
 have h4 : t * (V + B ^ i * y) = t * V + B ^ i * (t * y) := by rw [Nat.mul_add, Nat.mul_left_comm]
 rw [h3, h4]
 simp only [Nat.mul_add] at h1 ⊢
 simp only [Nat.mul_add] at h
 omega
theorem Hh {B i c x y D W V : Nat} (h : D + B ^ i * c = W + V) : (D + B ^ i * ((c + x + y) % B)) + B ^ (i + 1) * ((c + x + y) / B) = (W + B ^ i * x) + (V + B ^ i * y) := by
 have h1 : B ^ i * ((c + x + y) % B + B * ((c + x + y) / B)) = B ^ i * (c + x + y) := by rw [Nat.mod_add_div]
 have h2 : B ^ (i + 1) * ((c + x + y) / B) = B ^ i * (B * ((c + x + y) / B)) := by rw [Nat.pow_succ, Nat.mul_assoc]
 rw [h2]
 rw [Nat.mul_add, Nat.mul_add (B ^ i) (c + x), Nat.mul_add (B ^ i) c] at h1
 omega
theorem Og {BL D V W t cl : Nat} (hD : D < BL) (h : D + t * V = W + BL * cl) (hcl : cl = 0) : ¬ W < t * V ∧ D = W - t * V := by subst hcl; simp at h; omega
theorem Oh {BL D V W t cl E c : Nat} (hD : D < BL) (hW : W < BL) (hE : E < BL) (h : D + t * V = W + BL * cl) (hcl : cl ≠ 0) (hle : t * V ≤ W + V) (hV : V ≤ BL) (h2 : E + BL * c = D + V) : W < t * V ∧ E = W + V - t * V := by
 have h1 : BL * 1 ≤ BL * cl := Nat.mul_le_mul_left _ zO
 rw [Nat.mul_one] at h1
 refine ⟨zO, ?_⟩
 have h3 : E + BL * c + t * V = W + BL * cl + V := by omega
 rcases Nat.lt_trichotomy c cl with h' | h' | h'
 ·have : BL * (c + 1) ≤ BL * cl := Nat.mul_le_mul_left _ h'
  rw [Nat.mul_add, Nat.mul_one] at this; omega
 ·subst h'; omega
 ·have : BL * (cl + 1) ≤ BL * c := Nat.mul_le_mul_left _ h'
  rw [Nat.mul_add, Nat.mul_one] at this; omega
theorem Dk {B : Nat} (hB : 1 < B) {xs : List Nat} (h : ∀ d ∈ xs, d < B) (i : Nat) : xs.getD i 0 < B := by
 rw [List.getD_eq_getElem?_getD]
 by_cases hi : i < xs.length
 ·rw [List.getElem?_eq_getElem hi]; exact h _ (List.getElem_mem hi)
 ·rw [List.getElem?_eq_none zO]; simp; omega
theorem getD_some {xs : List Nat} {i : Nat} (h : i < xs.length) : xs[i]? = some (xs.getD i 0) := by rw [List.getElem?_eq_getElem h, List.getD_eq_getElem?_getD, List.getElem?_eq_getElem h]; rfl
theorem B4 {xs : List Nat} {i : Nat} (h : ¬ i < xs.length) : xs.getD i 0 = 0 := by rw [List.getD_eq_getElem?_getD, List.getElem?_eq_none zO]; rfl
def awayV (W V t : Nat) : Nat := if W < t * V then W + V - t * V else W - t * V
theorem MD {fr : Nat → AV} {h : Nat → Blk} {nx id n : Nat} {pre ws post : List Nat} {ex gr : Bool} (b t : Nat) (hb : h id = ⟨132, natA .u32 (pre ++ ws ++ post), ex, gr, true⟩) (hn : (pre ++ ws ++ post).length = n)
  (hd : ∀ d ∈ ws, d < B32) (hl : (enc B32 b).length < ws.length) (hlen : n ≤ 1099511627777) (ht : t < B32) (hle : t * b ≤ val B32 ws + b) :
  InOk Tryz.prog ⟨fr, h, nx⟩ 147 [.ref id n pre.length ws.length, natI b, .int .u64 t] (.bool (decide (val B32 ws < t * b)))
   ⟨fr, upd h id ⟨132, natA .u32 (pre ++ padL B32 ws.length (awayV (val B32 ws) b t) ++ post), ex, gr, true⟩, nx⟩ := by
 refine Bd (W := fun _ => false) AS Tryz.func147 rfl zK zL (AC ?_)
 generalize hQ : PostIn Tryz.prog Tryz.f147 _ _ _ = Q
 have hB : B32 = 4294967296 := rfl
 obtain ⟨L, hL⟩ : ∃ L, ws.length = L := ⟨_, rfl⟩
 have hnn : pre.length + L + post.length = n := by simp at hn; omega
 have hbl : (natA .u32 (pre ++ ws ++ post)).length = n := by rw [AF, hn]
 simp (disch := omega) only [go_sem, hL, hb, hbl]
 have hWlt : val B32 ws < B32 ^ L := by rw [← hL]; exact A9 hd
 have hVlt : b ≤ B32 ^ L := by
  have h1 := Aw AJ (n := b)
  have h2 := Nat.pow_le_pow_right (show 0 < B32 by decide) (show (enc B32 b).length ≤ L by omega)
  omega
 have key1 : ∀ st : St, ∀ ds : List Nat, ∀ e : Bool, ds.length = L → (∀ d ∈ ds, d < B32) → e = decide (val B32 ws < t * b) → val B32 ds = awayV (val B32 ws) b t → st.fr 6 = .bool e → st.h = upd h id ⟨132, natA .u32 (pre ++ ds ++ post), ex, gr, true⟩ → st.nx = nx → Q .ret st := by
  intro st ds e k1 k2 k3 k4 k5 k6 k7
  rw [← hQ]
  refine Bt (.inl rfl) rfl (by rw [k5, k3]) ?_ k7
  rw [k6, hL, Jh AJ k2 k1 k4]
 refine AM (fun (p : Nat × Nat × Nat × List Nat) st => st.fr 0 = .ref id n pre.length L ∧ st.fr 1 = natI b ∧ st.fr 2 = .int .u64 t ∧ st.fr 7 = .int .u64 p.2.1 ∧ st.fr 8 = .int .i64 p.2.2.1 ∧ st.fr 12 = .ref id n pre.length L ∧ st.fr 13 = .int .i64 L ∧ st.fr 14 = .int .i64 p.1 ∧
   st.h = upd h id ⟨132, natA .u32 (pre ++ p.2.2.2 ++ post), ex, gr, true⟩ ∧ st.nx = nx ∧ p.2.2.2.length = L ∧ p.1 ≤ L ∧ p.2.1 < B32 ∧ p.2.2.1 ≤ 1 ∧ (∀ q ∈ p.2.2.2, q < B32) ∧ p.2.2.2.drop p.1 = ws.drop p.1 ∧
   val B32 (p.2.2.2.take p.1) + t * val B32 ((enc B32 b).take p.1) = val B32 (ws.take p.1) + B32 ^ p.1 * (p.2.1 + p.2.2.1)) (fun p => L - p.1) (0, 0, 0, ws)
  ⟨zV, (by simp [AA, natI] <;> omega), zV, zV, zV, zV, zV, zV, by funext j; simp only [AA]; split <;> simp_all, rfl, hL, zS, by simp [B32], zS, hd, rfl, by simp [val]⟩ ?_
 clear hL hbl
 rintro ⟨i, c, l, ds⟩ ⟨fr1, h1, nx1⟩ ⟨h0, k1, h2, h7, h8, h12, h13, h14, eh, enx, hdl, hi, hc, hl1, hq, hdr, hv⟩ J hJ
 simp only [natI] at h0 k1 h2 h7 h8 h12 h13 h14 eh enx hdl hi hc hl1 hq hdr hv
 subst eh enx
 have hal : (natA .u32 (pre ++ ds ++ post)).length = n := by rw [AF]; simp; omega
 by_cases hin : i < L
 ·obtain ⟨x, hx⟩ := AI (xs := ds) (i := i) zO
  have hxw : ws[i]? = some x := by
   have := congrArg (·[0]?) hdr
   simp only [List.getElem?_drop, Nat.add_zero] at this; rw [← this]; exact hx
  have hxB := hq x (List.mem_of_getElem? hx)
  have hrd := (Di (pre := pre) (post := post) (show i < ds.length by omega)).trans hx
  have hwr := fun e => EH (pre := pre) (post := post) (e := e) (show i < ds.length by omega)
  obtain ⟨y, hy⟩ : ∃ y, (enc B32 b).getD i 0 = y := ⟨_, rfl⟩
  have hyB : y < B32 := hy ▸ Dk AJ (Ad AJ b) i
  have hvy := Dj (B := B32) (xs := enc B32 b) (i := i)
  rw [hy] at hvy
  obtain ⟨s1, s2⟩ := Of (l := l) (x := x) hc ht hyB
  obtain ⟨low, hlow⟩ : ∃ low, (c + t * y) % B32 = low := ⟨_, rfl⟩
  obtain ⟨c', hc'⟩ : ∃ c', (c + t * y) / B32 = c' := ⟨_, rfl⟩
  have hlowB : low < B32 := hlow ▸ Nat.mod_lt _ zD
  have key : ∀ (e l' : Nat) (st : St), e < B32 → l' ≤ 1 → e + low + l = x + B32 * l' → st.fr 0 = .ref id n pre.length L → st.fr 1 = natI b → st.fr 2 = .int .u64 t → st.fr 7 = .int .u64 c' → st.fr 8 = .int .i64 l' → st.fr 12 = .ref id n pre.length L → st.fr 13 = .int .i64 L → st.fr 14 = .int .i64 ((i + 1 : Nat) : Int) →
    st.h = upd h id ⟨132, natA .u32 (pre ++ ds.set i e ++ post), ex, gr, true⟩ → st.nx = nx1 → J st := by
   intro e l' st he hl' hel r0 r1 r2 r7 r8 r12 r13 r14 rh rn
   refine hJ (i + 1, c', l', ds.set i e) st ⟨r0, r1, r2, r7, r8, r12, r13, r14, rh, rn, by simp [hdl], hin, hc' ▸ s1, hl', CZ hq he, CB hdr, ?_⟩ zT
   simp only
   rw [Bz zO, hvy, AT hxw, ← hc']
   exact QT (T := 0) hv (by rw [hlow]; exact hel)
  clear hJ key1 hv s1 hvy hdr hd hWlt hVlt hle hl hxw hq
  obtain ⟨z, hz⟩ : ∃ z, t * y = z := ⟨_, rfl⟩
  rw [hz] at hlow hc' s2
  rw [hB] at hxB hyB hlow hc' hlowB hc ht s2
  have hupd : ∀ z w : Blk, upd (upd h id z) id w = upd h id w := by intro z w; funext j; simp only [AA]; split <;> rfl
  by_cases hiy : i < (enc B32 b).length
  ·have hyw := getD_some hiy
   rw [hy] at hyw
   by_cases hneg : x < low + l
   ·have hw3 : IntKind.u32.wrap ((x : Int) - (low : Int) - (l : Int)) = ((x + 4294967296 - low - l : Nat) : Int) := by rw [EI zO zO]; omega
    simp (disch := omega) only [go_sem, h0, k1, h2, h7, h8, h12, h13, h14, hal, hrd, hwr, hyw, hz, hlow, hc', BH, BJ, hw3, hupd]
    exact key (x + 4294967296 - low - l) 1 _ (by rw [hB]; omega) zO (by rw [hB]; omega) (by simp [AA, h0] <;> omega) (by simp [AA, k1, natI] <;> omega) (by simp [AA, h2] <;> omega) zV zV (by simp [AA, h12] <;> omega) (by simp [AA, h13] <;> omega) zV rfl rfl
   ·have hw3 : IntKind.u32.wrap ((x : Int) - (low : Int) - (l : Int)) = ((x - low - l : Nat) : Int) := by rw [BH zO zO]; omega
    simp (disch := omega) only [go_sem, h0, k1, h2, h7, h8, h12, h13, h14, hal, hrd, hwr, hyw, hz, hlow, hc', BH, BJ, hw3, hupd]
    exact key (x - low - l) 0 _ (by rw [hB]; omega) zO (by rw [hB]; omega) (by simp [AA, h0] <;> omega) (by simp [AA, k1, natI] <;> omega) (by simp [AA, h2] <;> omega) zV zV (by simp [AA, h12] <;> omega) (by simp [AA, h13] <;> omega) zV rfl rfl
  ·have hyw := B4 hiy
   rw [hy] at hyw
   have hz0 : z = 0 := by rw [← hz, hyw, Nat.mul_zero]
   rw [hz0, Nat.add_zero] at hlow hc'
   obtain rfl : low = c := by omega
   by_cases hneg : x < low + l
   ·have hw3 : IntKind.u32.wrap ((x : Int) - (low : Int) - (l : Int)) = ((x + 4294967296 - low - l : Nat) : Int) := by rw [EI zO zO]; omega
    simp (disch := omega) only [go_sem, h0, k1, h2, h7, h8, h12, h13, h14, hal, hrd, hwr, hlow, hc', BH, BJ, hw3, hupd]
    exact key (x + 4294967296 - low - l) 1 _ (by rw [hB]; omega) zO (by rw [hB]; omega) (by simp [AA, h0] <;> omega) (by simp [AA, k1, natI] <;> omega) (by simp [AA, h2] <;> omega) zV zV (by simp [AA, h12] <;> omega) (by simp [AA, h13] <;> omega) zV rfl rfl
   ·have hw3 : IntKind.u32.wrap ((x : Int) - (low : Int) - (l : Int)) = ((x - low - l : Nat) : Int) := by rw [BH zO zO]; omega
    simp (disch := omega) only [go_sem, h0, k1, h2, h7, h8, h12, h13, h14, hal, hrd, hwr, hlow, hc', BH, BJ, hw3, hupd]
    exact key (x - low - l) 0 _ (by rw [hB]; omega) zO (by rw [hB]; omega) (by simp [AA, h0] <;> omega) (by simp [AA, k1, natI] <;> omega) (by simp [AA, h2] <;> omega) zV zV (by simp [AA, h12] <;> omega) (by simp [AA, h13] <;> omega) zV rfl rfl
 ·obtain rfl : i = L := by omega
  have e1 : ds.take i = ds := List.take_of_length_le zO
  have e2 : ws.take i = ws := List.take_of_length_le (by rw [← hdl]; have := congrArg List.length hdr; simp at this; omega)
  have e3 : (enc B32 b).take i = enc B32 b := List.take_of_length_le (by have := congrArg List.length hdr; simp at this; omega)
  rw [e1, e2, e3, Aa AJ] at hv
  have hDlt : val B32 ds < B32 ^ i := by rw [← hdl]; exact A9 hq
  by_cases hcl : c = 0 ∧ l = 0
  ·obtain ⟨rfl, rfl⟩ := hcl
   obtain ⟨f1, f2⟩ := Og hDlt hv rfl
   simp (disch := omega) only [go_sem, h0, k1, h2, h7, h8, h12, h13, h14, hal]
   exact key1 _ ds false hdl hq (by simp [f1]) (by rw [awayV, if_neg f1, f2]) zV rfl rfl
  ·have hcl0 : c + l ≠ 0 := by omega
   have hWi : val B32 ws < B32 ^ i := hWlt
   have fin := fun (es : List Nat) (cc : Nat) (hE : val B32 es < B32 ^ i) (h2 : val B32 es + B32 ^ i * cc = val B32 ds + b) => Oh hDlt hWi hE hv hcl0 hle hVlt h2
   have hlen0 : (enc B32 b).length ≤ i := by have := congrArg List.length hdr; simp at this; omega
   have hupd : ∀ z w : Blk, upd (upd h id z) id w = upd h id w := by intro z w; funext j; simp only [AA]; split <;> rfl
   obtain ⟨R, hR⟩ : ∃ R : Nat × Nat × List Nat → St → Prop, R = fun p st => st.fr 0 = .ref id n pre.length i ∧ st.fr 1 = natI b ∧ st.fr 7 = .int .u64 p.2.1 ∧ st.fr 57 = .ref id n pre.length i ∧ st.fr 58 = .int .i64 i ∧ st.fr 59 = .int .i64 p.1 ∧
      st.h = upd h id ⟨132, natA .u32 (pre ++ p.2.2 ++ post), ex, gr, true⟩ ∧ st.nx = nx1 ∧ p.2.2.length = i ∧ p.1 ≤ i ∧ p.2.1 ≤ 1 ∧ (∀ q ∈ p.2.2, q < B32) ∧ p.2.2.drop p.1 = ds.drop p.1 ∧ val B32 (p.2.2.take p.1) + B32 ^ p.1 * p.2.1 = val B32 (ds.take p.1) + val B32 ((enc B32 b).take p.1) := ⟨_, rfl⟩
   rcases (by omega : l = 1 ∨ (l = 0 ∧ c ≠ 0)) with rfl | ⟨rfl, hc0⟩
   ·simp (disch := omega) only [go_sem, h0, k1, h2, h7, h8, h12, h13, h14, hal]
    refine AM R (fun p => i - p.1) (0, 0, ds) (by rw [hR]; exact ⟨(by simp [AA, h0] <;> omega), (by simp [AA, k1, natI] <;> omega), zV, zV, zV, zV, rfl, rfl, hdl, zS, zS, hq, rfl, by simp [val]⟩) ?_
    clear h0 k1 h2 h7 h8 h12 h13 h14
    rintro ⟨k, c2, es⟩ ⟨fr2, h2, nx2⟩ hst J2 hJ2
    rw [hR] at hst
    obtain ⟨h0, k1, h7, h57, h58, h59, eh, enx, hel, hk, hc2, hp, hdr2, hw⟩ := hst
    simp only [natI] at h0 k1 h7 h57 h58 h59 eh enx hel hk hc2 hp hdr2 hw
    subst eh enx
    have hal : (natA .u32 (pre ++ es ++ post)).length = n := by rw [AF]; simp; omega
    by_cases hki : k < i
    ·obtain ⟨x, hx⟩ := AI (xs := es) (i := k) zO
     have hxd : ds[k]? = some x := by
      have := congrArg (·[0]?) hdr2
      simp only [List.getElem?_drop, Nat.add_zero] at this; rw [← this]; exact hx
     have hxB := hp x (List.mem_of_getElem? hx)
     have hrd := (Di (pre := pre) (post := post) (show k < es.length by omega)).trans hx
     have hwr := fun e => EH (pre := pre) (post := post) (e := e) (show k < es.length by omega)
     obtain ⟨y, hy⟩ : ∃ y, (enc B32 b).getD k 0 = y := ⟨_, rfl⟩
     have hyB : y < B32 := hy ▸ Dk AJ (Ad AJ b) k
     have hvy := Dj (B := B32) (xs := enc B32 b) (i := k)
     rw [hy] at hvy
     obtain ⟨s1, s2, _⟩ := Eb AJ hc2 hxB hyB
     have key : ∀ (st : St), st.fr 0 = .ref id n pre.length i → st.fr 1 = natI b → st.fr 7 = .int .u64 ((c2 + x + y) / 4294967296 : Nat) → st.fr 57 = .ref id n pre.length i → st.fr 58 = .int .i64 i → st.fr 59 = .int .i64 ((k + 1 : Nat) : Int) →
       st.h = upd h id ⟨132, natA .u32 (pre ++ es.set k ((c2 + x + y) % 4294967296) ++ post), ex, gr, true⟩ → st.nx = nx2 → J2 st := by
      intro st r0 r1 r7 r57 r58 r59 rh rn
      refine hJ2 (k + 1, (c2 + x + y) / B32, es.set k ((c2 + x + y) % B32)) st ?_ zT
      rw [hR]
      refine ⟨r0, r1, r7, r57, r58, r59, rh, rn, by simp [hel], hki, s1, CZ hp s2, CB hdr2, ?_⟩
      simp only
      rw [Bz zO, hvy, AT hxd]
      exact Hh hw
     clear hJ2 hJ key1 hv hw s1 s2 hvy hdr hdr2 hd hWlt hWi hVlt hle hl hxd hq hp fin hR hDlt
     rw [hB] at hxB hyB
     by_cases hky : k < (enc B32 b).length
     ·have hyw := getD_some hky
      rw [hy] at hyw
      simp (disch := omega) only [go_sem, h0, k1, h7, h57, h58, h59, hal, hrd, hwr, hyw, BH, BJ, hupd]
      exact key _ (by simp [AA, h0] <;> omega) (by simp [AA, k1, natI] <;> omega) zV (by simp [AA, h57] <;> omega) (by simp [AA, h58] <;> omega) zV rfl rfl
     ·have hyw := B4 hky
      rw [hy] at hyw
      subst hyw
      simp only [Nat.add_zero] at key
      simp (disch := omega) only [go_sem, h0, k1, h7, h57, h58, h59, hal, hrd, hwr, BH, BJ, hupd]
      exact key _ (by simp [AA, h0] <;> omega) (by simp [AA, k1, natI] <;> omega) zV (by simp [AA, h57] <;> omega) (by simp [AA, h58] <;> omega) zV rfl rfl
    ·obtain rfl : k = i := by omega
     have f1 : es.take k = es := List.take_of_length_le zO
     rw [f1, e1, e3, Aa AJ] at hw
     have hElt : val B32 es < B32 ^ k := by rw [← hel]; exact A9 hp
     obtain ⟨g1, g2⟩ := fin es c2 hElt hw
     simp (disch := omega) only [go_sem, h0, k1, h7, h57, h58, h59, hal]
     exact key1 _ es true hel hp (by simp [g1]) (by rw [awayV, if_pos g1, g2]) zV rfl rfl
   ·simp (disch := omega) only [go_sem, h0, k1, h2, h7, h8, h12, h13, h14, hal]
    refine AM R (fun p => i - p.1) (0, 0, ds) (by rw [hR]; exact ⟨(by simp [AA, h0] <;> omega), (by simp [AA, k1, natI] <;> omega), zV, zV, zV, zV, rfl, rfl, hdl, zS, zS, hq, rfl, by simp [val]⟩) ?_
    clear h0 k1 h2 h7 h8 h12 h13 h14
    rintro ⟨k, c2, es⟩ ⟨fr2, h2, nx2⟩ hst J2 hJ2
    rw [hR] at hst
    obtain ⟨h0, k1, h7, h57, h58, h59, eh, enx, hel, hk, hc2, hp, hdr2, hw⟩ := hst
    simp only [natI] at h0 k1 h7 h57 h58 h59 eh enx hel hk hc2 hp hdr2 hw
    subst eh enx
    have hal : (natA .u32 (pre ++ es ++ post)).length = n := by rw [AF]; simp; omega
    by_cases hki : k < i
    ·obtain ⟨x, hx⟩ := AI (xs := es) (i := k) zO
     have hxd : ds[k]? = some x := by
      have := congrArg (·[0]?) hdr2
      simp only [List.getElem?_drop, Nat.add_zero] at this; rw [← this]; exact hx
     have hxB := hp x (List.mem_of_getElem? hx)
     have hrd := (Di (pre := pre) (post := post) (show k < es.length by omega)).trans hx
     have hwr := fun e => EH (pre := pre) (post := post) (e := e) (show k < es.length by omega)
     obtain ⟨y, hy⟩ : ∃ y, (enc B32 b).getD k 0 = y := ⟨_, rfl⟩
     have hyB : y < B32 := hy ▸ Dk AJ (Ad AJ b) k
     have hvy := Dj (B := B32) (xs := enc B32 b) (i := k)
     rw [hy] at hvy
     obtain ⟨s1, s2, _⟩ := Eb AJ hc2 hxB hyB
     have key : ∀ (st : St), st.fr 0 = .ref id n pre.length i → st.fr 1 = natI b → st.fr 7 = .int .u64 ((c2 + x + y) / 4294967296 : Nat) → st.fr 57 = .ref id n pre.length i → st.fr 58 = .int .i64 i → st.fr 59 = .int .i64 ((k + 1 : Nat) : Int) →
       st.h = upd h id ⟨132, natA .u32 (pre ++ es.set k ((c2 + x + y) % 4294967296) ++ post), ex, gr, true⟩ → st.nx = nx2 → J2 st := by
      intro st r0 r1 r7 r57 r58 r59 rh rn
      refine hJ2 (k + 1, (c2 + x + y) / B32, es.set k ((c2 + x + y) % B32)) st ?_ zT
      rw [hR]
      refine ⟨r0, r1, r7, r57, r58, r59, rh, rn, by simp [hel], hki, s1, CZ hp s2, CB hdr2, ?_⟩
      simp only
      rw [Bz zO, hvy, AT hxd]
      exact Hh hw
     clear hJ2 hJ key1 hv hw s1 s2 hvy hdr hdr2 hd hWlt hWi hVlt hle hl hxd hq hp fin hR hDlt
     rw [hB] at hxB hyB
     by_cases hky : k < (enc B32 b).length
     ·have hyw := getD_some hky
      rw [hy] at hyw
      simp (disch := omega) only [go_sem, h0, k1, h7, h57, h58, h59, hal, hrd, hwr, hyw, BH, BJ, hupd]
      exact key _ (by simp [AA, h0] <;> omega) (by simp [AA, k1, natI] <;> omega) zV (by simp [AA, h57] <;> omega) (by simp [AA, h58] <;> omega) zV rfl rfl
     ·have hyw := B4 hky
      rw [hy] at hyw
      subst hyw
      simp only [Nat.add_zero] at key
      simp (disch := omega) only [go_sem, h0, k1, h7, h57, h58, h59, hal, hrd, hwr, BH, BJ, hupd]
      exact key _ (by simp [AA, h0] <;> omega) (by simp [AA, k1, natI] <;> omega) zV (by simp [AA, h57] <;> omega) (by simp [AA, h58] <;> omega) zV rfl rfl
    ·obtain rfl : k = i := by omega
     have f1 : es.take k = es := List.take_of_length_le zO
     rw [f1, e1, e3, Aa AJ] at hw
     have hElt : val B32 es < B32 ^ k := by rw [← hel]; exact A9 hp
     obtain ⟨g1, g2⟩ := fin es c2 hElt hw
     simp (disch := omega) only [go_sem, h0, k1, h7, h57, h58, h59, hal]
     exact key1 _ es true hel hp (by simp [g1]) (by rw [awayV, if_pos g1, g2]) zV rfl rfl
theorem Iw : callable Tryz.prog 131 = true := by kernel_rfl
theorem Oi : callable Tryz.prog 132 = true := by kernel_rfl
def offA (W V d n : Nat) : List AV := if W < d * V then natA .i64 (padL B9 (n + 2) (W + B9 ^ (n + 2) - d * V)) ++ [.int .i64 (-1)] else natA .i64 (padL B9 (n + 3) (W - d * V))
theorem QU {D Bn V W Wl wt c d : Nat} (hD : D < Bn) (h : D + d * V = Wl + Bn * c) (hW : W = Wl + Bn * wt) (hc : c ≤ wt) : ¬ W < d * V ∧ D + Bn * (wt - c) = W - d * V := by
 obtain ⟨k, rfl⟩ : ∃ k, wt = c + k := ⟨wt - c, zO⟩
 rw [Nat.mul_add] at hW
 rw [Nat.add_sub_cancel_left]; omega
theorem QV {D Bn V W Wl wt c d : Nat} (hD : D < Bn) (h : D + d * V = Wl + Bn * c) (hW : W = Wl + Bn * wt) (hV : V < Bn) (hle : d * V ≤ W + V) (hc : ¬ c ≤ wt) : W < d * V ∧ c = wt + 1 ∧ D = W + Bn - d * V := by
 obtain ⟨k, rfl⟩ : ∃ k, c = wt + 1 + k := ⟨c - (wt + 1), zO⟩
 rw [Nat.mul_add, Nat.mul_add, Nat.mul_one] at h
 rcases Nat.eq_zero_or_pos k with rfl | hk
 ·refine ⟨?_, zO, ?_⟩ <;> simp at h <;> omega
 ·have : Bn * 1 ≤ Bn * k := Nat.mul_le_mul_left _ hk
  omega
theorem S3 {B i c x y e c' D d W V : Nat} (h : D + d * V = W + B ^ i * c) (he : e + y * d + c = x + B * c') : (D + B ^ i * e) + d * (V + B ^ i * y) = (W + B ^ i * x) + B ^ (i + 1) * c' := by
 have h1 : B ^ i * (e + y * d + c) = B ^ i * (x + B * c') := by rw [he]
 have h3 : B ^ (i + 1) * c' = B ^ i * (B * c') := by rw [Nat.pow_succ, Nat.mul_assoc]
 have h4 : d * (V + B ^ i * y) = d * V + B ^ i * (y * d) := by rw [Nat.mul_add, Nat.mul_comm y d, Nat.mul_left_comm]
 rw [h3, h4]
 rw [Nat.mul_add, Nat.mul_add, Nat.mul_add] at h1
 omega
theorem QW {k : IntKind} {pre ws post : List Nat} : natA k (pre ++ ws ++ post) = natA k pre ++ natA k ws ++ natA k post := by simp [natA]
theorem Jj {k : IntKind} {pre ds post : List Nat} {i : Nat} {v : AV} (h : i < ds.length) : (natA k (pre ++ ds ++ post)).set (pre.length + i) v = natA k pre ++ (natA k ds).set i v ++ natA k post := by
 rw [QW, ← AF k pre, EH (by rw [AF]; exact h)]
set_option maxHeartbeats 2000000 in
theorem Oj {fr : Nat → AV} {h : Nat → Blk} {nx id n m : Nat} {pre ws post : List Nat} {ex gr : Bool} (b d : Nat) (hb : h id = ⟨2, natA .i64 (pre ++ ws ++ post), ex, gr, true⟩) (hn : (pre ++ ws ++ post).length = m)
  (hd : ∀ d ∈ ws, d < B9) (hl : (enc B9 b).length = n + 2) (hwl : ws.length = n + 3) (hlen : m ≤ 1099511627777) (ht : d < B9) (hle : d * b ≤ val B9 ws + b) :
  InOk Tryz.prog ⟨fr, h, nx⟩ 131 [.ref id m 0 m, natS b, .int .i64 pre.length, .int .i64 d] (.bool (decide (val B9 ws < d * b)))
   ⟨fr, upd h id ⟨2, natA .i64 pre ++ offA (val B9 ws) b d n ++ natA .i64 post, ex, gr, true⟩, nx⟩ := by
 refine Bd (W := fun _ => false) AS Tryz.func131 rfl zK zL (AC ?_)
 generalize hQ : PostIn Tryz.prog Tryz.f131 _ _ _ = Q
 have hB : B9 = 1000000000 := rfl
 have hnn : pre.length + (n + 3) + post.length = m := by simp at hn; omega
 have hupd : ∀ z w : Blk, upd (upd h id z) id w = upd h id w := by intro z w; funext j; simp only [AA]; split <;> rfl
 have hbN : b < B9 ^ (n + 2) := by rw [← hl]; exact Aw AR
 obtain ⟨wt, hwt⟩ := AI (xs := ws) (i := n + 2) zO
 have hwtB := hd wt (List.mem_of_getElem? hwt)
 have hWs : val B9 ws = val B9 (ws.take (n + 2)) + B9 ^ (n + 2) * wt := by
  have := AT (B := B9) hwt
  rwa [List.take_of_length_le zO] at this
 simp (disch := omega) only [go_sem, hl, natS]
 refine AM (fun (p : Nat × Nat × List Nat) st => st.fr 0 = .ref id m 0 m ∧ st.fr 1 = natS b ∧ st.fr 2 = .int .i64 pre.length ∧ st.fr 3 = .int .i64 d ∧ st.fr 9 = .int .i64 p.2.1 ∧ st.fr 13 = natS b ∧ st.fr 14 = .int .i64 ((n + 2 : Nat) : Int) ∧ st.fr 15 = .int .i64 p.1 ∧
   st.h = upd h id ⟨2, natA .i64 (pre ++ p.2.2 ++ post), ex, gr, true⟩ ∧ st.nx = nx ∧ p.2.2.length = n + 3 ∧ p.1 ≤ n + 2 ∧ p.2.1 ≤ B9 ∧ (∀ q ∈ p.2.2, q < B9) ∧ p.2.2.drop p.1 = ws.drop p.1 ∧
   val B9 (p.2.2.take p.1) + d * val B9 ((enc B9 b).take p.1) = val B9 (ws.take p.1) + B9 ^ p.1 * p.2.1) (fun p => n + 2 - p.1) (0, 0, ws)
  ⟨zV, (by simp [AA, natS] <;> omega), zV, zV, zV, (by simp [AA, natS] <;> omega), zV, zV, by funext j; simp only [AA]; split <;> simp_all, rfl, hwl, zS, zS, hd, rfl, by simp [val]⟩ ?_
 rintro ⟨i, c, ds⟩ ⟨fr1, h1, nx1⟩ ⟨h0, k1, h2, h3, h9, h13, h14, h15, eh, enx, hdl, hi, hc, hq, hdr, hv⟩ J hJ
 simp only [natS] at h0 k1 h2 h3 h9 h13 h14 h15 eh enx hdl hi hc hq hdr hv
 subst eh enx
 have hal : (natA .i64 (pre ++ ds ++ post)).length = m := by rw [AF]; simp; omega
 by_cases hin : i < n + 2
 ·obtain ⟨x, hx⟩ := AI (xs := ds) (i := i) zO
  have hxw : ws[i]? = some x := by
   have := congrArg (·[0]?) hdr
   simp only [List.getElem?_drop, Nat.add_zero] at this; rw [← this]; exact hx
  have hxB := hq x (List.mem_of_getElem? hx)
  have hrd := (Di (pre := pre) (post := post) (show i < ds.length by omega)).trans hx
  have hwr := fun e => EH (pre := pre) (post := post) (e := e) (show i < ds.length by omega)
  obtain ⟨y, hy⟩ := AI (xs := enc B9 b) (i := i) zO
  have hyB := Ad AR b y (List.mem_of_getElem? hy)
  have hvy := AT (B := B9) hy
  obtain ⟨z, hz⟩ : ∃ z, y * d = z := ⟨_, rfl⟩
  have hzb : z ≤ 999999999 * 999999999 := by rw [← hz]; exact Nat.mul_le_mul (by rw [hB] at hyB; omega) (by rw [hB] at ht; omega)
  have key : ∀ (e c' : Nat) (st : St), e < B9 → c' ≤ B9 → e + z + c = x + B9 * c' → st.fr 0 = .ref id m 0 m → st.fr 1 = natS b → st.fr 2 = .int .i64 pre.length → st.fr 3 = .int .i64 d → st.fr 9 = .int .i64 c' → st.fr 13 = natS b → st.fr 14 = .int .i64 ((n + 2 : Nat) : Int) → st.fr 15 = .int .i64 ((i + 1 : Nat) : Int) →
    st.h = upd h id ⟨2, natA .i64 (pre ++ ds.set i e ++ post), ex, gr, true⟩ → st.nx = nx1 → J st := by
   intro e c' st he hc' hel r0 r1 r2 r3 r9 r13 r14 r15 rh rn
   refine hJ (i + 1, c', ds.set i e) st ⟨r0, r1, r2, r3, r9, r13, r14, r15, rh, rn, by simp [hdl], hin, hc', CZ hq he, CB hdr, ?_⟩ zT
   simp only
   rw [Bz zO, hvy, AT hxw]
   exact S3 hv (by rw [hz]; exact hel)
  clear hJ hv hvy hdr hd hle hxw hq hWs hwt hwtB hbN hn hQ
  rw [hB] at hxB hyB hc ht key
  obtain ⟨q, hq⟩ : ∃ q, z / 1000000000 = q := ⟨_, rfl⟩
  obtain ⟨r, hr⟩ : ∃ r, z % 1000000000 = r := ⟨_, rfl⟩
  have hzz : z = 1000000000 * q + r := by omega
  have hrb : r < 1000000000 := by omega
  have hqb : q ≤ 999999998 := by omega
  by_cases hn1 : x < r + c
  ·by_cases hn2 : x + 1000000000 < r + c
   ·have w1 : (x : Int) - (r : Int) - (c : Int) + 1000000000 + 1000000000 = ((x + 2000000000 - r - c : Nat) : Int) := by omega
    simp (disch := omega) only [go_sem, h0, k1, h2, h3, h9, h13, h14, h15, hal, hrd, hy, hz, hq, hr, w1, hwr, hupd]
    exact key (x + 2000000000 - r - c) (q + 1 + 1) _ zO zO zO (by simp [AA, h0] <;> omega) (by simp [AA, k1, natS] <;> omega) (by simp [AA, h2] <;> omega) (by simp [AA, h3] <;> omega) zV (by simp [AA, h13, natS] <;> omega) (by simp [AA, h14] <;> omega) zV rfl rfl
   ·have w1 : (x : Int) - (r : Int) - (c : Int) + 1000000000 = ((x + 1000000000 - r - c : Nat) : Int) := by omega
    simp (disch := omega) only [go_sem, h0, k1, h2, h3, h9, h13, h14, h15, hal, hrd, hy, hz, hq, hr, w1, hwr, hupd]
    exact key (x + 1000000000 - r - c) (q + 1) _ zO zO zO (by simp [AA, h0] <;> omega) (by simp [AA, k1, natS] <;> omega) (by simp [AA, h2] <;> omega) (by simp [AA, h3] <;> omega) zV (by simp [AA, h13, natS] <;> omega) (by simp [AA, h14] <;> omega) zV rfl rfl
  ·have w1 : (x : Int) - (r : Int) - (c : Int) = ((x - r - c : Nat) : Int) := by omega
   simp (disch := omega) only [go_sem, h0, k1, h2, h3, h9, h13, h14, h15, hal, hrd, hy, hz, hq, hr, w1, hwr, hupd]
   exact key (x - r - c) q _ zO zO zO (by simp [AA, h0] <;> omega) (by simp [AA, k1, natS] <;> omega) (by simp [AA, h2] <;> omega) (by simp [AA, h3] <;> omega) zV (by simp [AA, h13, natS] <;> omega) (by simp [AA, h14] <;> omega) zV rfl rfl
 ·obtain rfl : i = n + 2 := by omega
  have e1 : (enc B9 b).take (n + 2) = enc B9 b := List.take_of_length_le zO
  rw [e1, Aa AR] at hv
  have hlt : ((ds.take (n + 2)).length) = n + 2 := by simp; omega
  have hDlt : val B9 (ds.take (n + 2)) < B9 ^ (n + 2) := by
   have := A9 (B := B9) (xs := ds.take (n + 2)) (fun q hq' => hq q (List.mem_of_mem_take hq')); rwa [hlt] at this
  have hdt : ds[n + 2]? = some wt := by
   have := congrArg (·[0]?) hdr
   simp only [List.getElem?_drop, Nat.add_zero] at this; rw [this]; exact hwt
  have hrd := (Di (pre := pre) (post := post) (show n + 2 < ds.length by omega)).trans hdt
  have hds : ds = ds.take (n + 2) ++ [wt] := by
   conv => lhs; rw [← List.take_append_drop (n + 2) ds, Ak hdt, List.drop_eq_nil_of_le zO]
  have hset : ∀ v : AV, (natA .i64 (pre ++ ds ++ post)).set (pre.length + (n + 2)) v = natA .i64 pre ++ (natA .i64 (ds.take (n + 2)) ++ [v]) ++ natA .i64 post := by
   intro v
   rw [Jj zO]
   congr 2
   conv => lhs; rw [hds]
   rw [← Bu, List.set_append_right _ _ (by rw [AF]; omega), AF, hlt, Nat.sub_self]; rfl
  have hget : ∀ v : AV, (natA .i64 pre ++ (natA .i64 (ds.take (n + 2)) ++ [v]) ++ natA .i64 post)[pre.length + (n + 2)]? = some v := by
   intro v
   have := Di (pre := natA .i64 pre) (ds := natA .i64 (ds.take (n + 2)) ++ [v]) (post := natA .i64 post) (i := n + 2) (by rw [List.length_append, AF, hlt]; simp)
   rw [AF] at this
   rw [this, List.getElem?_append_right (by rw [AF]; omega), AF, hlt, Nat.sub_self]; rfl
  have hlen2 : ∀ v : AV, (natA .i64 pre ++ (natA .i64 (ds.take (n + 2)) ++ [v]) ++ natA .i64 post).length = m := by
   intro v; simp [AF]; omega
  have key : ∀ (e : Bool) (v : AV) (st : St), st.fr 8 = .bool e → st.h = upd h id ⟨2, natA .i64 pre ++ (natA .i64 (ds.take (n + 2)) ++ [v]) ++ natA .i64 post, ex, gr, true⟩ → st.nx = nx1 →
    e = decide (val B9 ws < d * b) → natA .i64 (ds.take (n + 2)) ++ [v] = offA (val B9 ws) b d n → Q .ret st := by
   intro e v st r8 rh rn he hv'
   rw [← hQ]
   exact Bt (.inl rfl) rfl (by rw [r8, he]) (by rw [rh, hv']) rn
  have hqt : ∀ q ∈ ds.take (n + 2), q < B9 := fun q hq' => hq q (List.mem_of_mem_take hq')
  rw [hB] at hc hwtB
  have hl2 := hl
  by_cases hcw : c ≤ wt
  ·obtain ⟨f1, f2⟩ := QU hDlt hv hWs hcw
   have w1 : (wt : Int) - (c : Int) = ((wt - c : Nat) : Int) := by omega
   have hdc : false = decide (val B9 ws < d * b) := by simp [f1]
   have hfin : natA .i64 (ds.take (n + 2)) ++ [AV.int .i64 ((wt - c : Nat) : Int)] = offA (val B9 ws) b d n := by
    rw [offA, if_neg f1, Bm]
    congr 1
    refine Jh AR (fun q hq' => ?_) (by simp [hlt]) (by rw [At, hlt]; simp [val]; exact f2)
    rcases List.mem_append.1 hq' with h' | h'
    ·exact hqt q h'
    ·simp at h'; rw [h', hB]; omega
   have hg3 := hget (.int .i64 ((wt - c : Nat) : Int))
   have hl3 := hlen2 (.int .i64 ((wt - c : Nat) : Int))
   simp only [Bm, Bu] at hg3 hl3
   rw [AF] at hl3
   rw [DD] at hg3
   obtain ⟨z, hz, hz2⟩ := Option.map_eq_some_iff.1 hg3
   obtain rfl : z = wt - c := by injection hz2; omega
   clear hJ hv hWs hle hdr hds hd hl f1 f2 hqt hq hDlt hbN hQ
   simp (disch := omega) only [go_sem, h0, k1, h2, h3, h9, h13, h14, h15, hal, hl2, AF, hrd, w1, hset, hl3, hz, hupd]
   exact key false (.int .i64 ((wt - c : Nat) : Int)) _ zV (by simp only [Bm, Bu]) rfl hdc hfin
  ·obtain ⟨f1, f2, f3⟩ := QV hDlt hv hWs hbN hle hcw
   have w1 : (wt : Int) - (c : Int) = -1 := by omega
   have hfin : natA .i64 (ds.take (n + 2)) ++ [AV.int .i64 (-1)] = offA (val B9 ws) b d n := by
    rw [offA, if_pos f1]
    congr 2
    exact Jh AR hqt hlt f3
   have hdc : true = decide (val B9 ws < d * b) := by simp [f1]
   clear hJ hv hWs hle hdr hds hd hl f1 f2 f3 hqt hq hDlt hbN hQ
   simp (disch := omega) only [go_sem, h0, k1, h2, h3, h9, h13, h14, h15, hal, hl2, AF, hrd, w1, hset, hget, hlen2, hupd]
   exact key true (.int .i64 (-1)) _ zV rfl rfl hdc hfin
theorem XQ {Pw d w b c : Nat} (h : d + Pw * c = w + b) (h1 : d < Pw) (h2 : Pw ≤ w + b) (hc : c ≤ 1) : c = 1 := by
 rcases Nat.eq_zero_or_pos c with rfl | h'
 ·simp at h; omega
 ·omega
theorem XR {Pw d w b : Nat} (h : d + Pw * 1 = w + b) : d = w + b - Pw := by omega
theorem Ky {P : Program} {fn : Func} {st : St} {e : Ex} {h' : Nat → Blk} {nx' : Nat} (he : e = .ret ∨ e = .normal) (hr : fn.results.toList = []) (h1 : st.h = h') (h2 : st.nx = nx') : PostIn P fn (.tup []) h' nx' e st :=
 ⟨by rcases he with rfl | rfl <;> trivial, by rw [hr]; simp [resV, resL], h1, h2⟩
theorem Ol {fr : Nat → AV} {h : Nat → Blk} {nx id n m : Nat} {pre ws post : List Nat} {ex gr : Bool} (b : Nat) (hb : h id = ⟨2, natA .i64 pre ++ (natA .i64 ws ++ [.int .i64 (-1)]) ++ natA .i64 post, ex, gr, true⟩) (hn : pre.length + (n + 3) + post.length = m)
  (hd : ∀ d ∈ ws, d < B9) (hl : (enc B9 b).length = n + 2) (hwl : ws.length = n + 2) (hlen : m ≤ 1099511627777) (hge : B9 ^ (n + 2) ≤ val B9 ws + b) :
  InOk Tryz.prog ⟨fr, h, nx⟩ 132 [.ref id m 0 m, natS b, .int .i64 pre.length] (.tup [])
   ⟨fr, upd h id ⟨2, natA .i64 (pre ++ padL B9 (n + 3) (val B9 ws + b - B9 ^ (n + 2)) ++ post), ex, gr, true⟩, nx⟩ := by
 refine Bd (W := fun _ => false) AS Tryz.func132 rfl zK zL (AC ?_)
 generalize hQ : PostIn Tryz.prog Tryz.f132 _ _ _ = Q
 have hB : B9 = 1000000000 := rfl
 have hupd : ∀ z w : Blk, upd (upd h id z) id w = upd h id w := by intro z w; funext j; simp only [AA]; split <;> rfl
 have hbN : b < B9 ^ (n + 2) := by rw [← hl]; exact Aw AR
 have hwN : val B9 ws < B9 ^ (n + 2) := by rw [← hwl]; exact A9 hd
 have bl : ∀ (ds : List Nat) (v : AV), ds.length = n + 2 → (natA .i64 pre ++ (natA .i64 ds ++ [v]) ++ natA .i64 post).length = m := by intro ds v h; simp [AF]; omega
 have bg : ∀ (ds : List Nat) (v : AV) (i : Nat), ds.length = n + 2 → i < n + 2 → (natA .i64 pre ++ (natA .i64 ds ++ [v]) ++ natA .i64 post)[pre.length + i]? = (ds[i]?).map fun n : Nat => AV.int .i64 n := by
  intro ds v i h hi
  have := Di (pre := natA .i64 pre) (ds := natA .i64 ds ++ [v]) (post := natA .i64 post) (i := i) (by simp [AF]; omega)
  rw [AF] at this
  rw [this, List.getElem?_append_left (by rw [AF]; omega), DD]
 have bs : ∀ (ds : List Nat) (v : AV) (i e : Nat), ds.length = n + 2 → i < n + 2 → (natA .i64 pre ++ (natA .i64 ds ++ [v]) ++ natA .i64 post).set (pre.length + i) (.int .i64 e) = natA .i64 pre ++ (natA .i64 (ds.set i e) ++ [v]) ++ natA .i64 post := by
  intro ds v i e h hi
  have := EH (pre := natA .i64 pre) (ds := natA .i64 ds ++ [v]) (post := natA .i64 post) (i := i) (e := AV.int .i64 (e : Int)) (by simp [AF]; omega)
  rw [AF] at this
  rw [this, List.set_append_left _ _ (by rw [AF]; omega), Du]
 have bt : ∀ (ds : List Nat) (v : AV), ds.length = n + 2 → (natA .i64 pre ++ (natA .i64 ds ++ [v]) ++ natA .i64 post)[pre.length + (n + 2)]? = some v := by
  intro ds v h
  have := Di (pre := natA .i64 pre) (ds := natA .i64 ds ++ [v]) (post := natA .i64 post) (i := n + 2) (by simp [AF]; omega)
  rw [AF] at this
  rw [this, List.getElem?_append_right (by rw [AF]; omega), AF, h, Nat.sub_self]; rfl
 have bz : ∀ (ds : List Nat) (v w : AV), ds.length = n + 2 → (natA .i64 pre ++ (natA .i64 ds ++ [v]) ++ natA .i64 post).set (pre.length + (n + 2)) w = natA .i64 pre ++ (natA .i64 ds ++ [w]) ++ natA .i64 post := by
  intro ds v w h
  have := EH (pre := natA .i64 pre) (ds := natA .i64 ds ++ [v]) (post := natA .i64 post) (i := n + 2) (e := w) (by simp [AF]; omega)
  rw [AF] at this
  rw [this, List.set_append_right _ _ (by rw [AF]; omega), AF, h, Nat.sub_self]; rfl
 simp (disch := omega) only [go_sem, hl, natS]
 refine AM (fun (p : Nat × Nat × List Nat) st => st.fr 0 = .ref id m 0 m ∧ st.fr 1 = natS b ∧ st.fr 2 = .int .i64 pre.length ∧ st.fr 6 = .int .i64 p.2.1 ∧ st.fr 10 = natS b ∧ st.fr 11 = .int .i64 ((n + 2 : Nat) : Int) ∧ st.fr 12 = .int .i64 p.1 ∧
   st.h = upd h id ⟨2, natA .i64 pre ++ (natA .i64 p.2.2 ++ [.int .i64 (-1)]) ++ natA .i64 post, ex, gr, true⟩ ∧ st.nx = nx ∧ p.2.2.length = n + 2 ∧ p.1 ≤ n + 2 ∧ p.2.1 ≤ 1 ∧ (∀ q ∈ p.2.2, q < B9) ∧ p.2.2.drop p.1 = ws.drop p.1 ∧
   val B9 (p.2.2.take p.1) + B9 ^ p.1 * p.2.1 = val B9 (ws.take p.1) + val B9 ((enc B9 b).take p.1)) (fun p => n + 2 - p.1) (0, 0, ws)
  ⟨zV, (by simp [AA, natS] <;> omega), zV, zV, (by simp [AA, natS] <;> omega), zV, zV, by funext j; simp only [AA]; split <;> simp_all, rfl, hwl, zS, zS, hd, rfl, by simp [val]⟩ ?_
 rintro ⟨i, c, ds⟩ ⟨fr1, h1, nx1⟩ ⟨h0, k1, h2, h6, h10, h11, h12, eh, enx, hdl, hi, hc, hq, hdr, hv⟩ J hJ
 simp only [natS] at h0 k1 h2 h6 h10 h11 h12 eh enx hdl hi hc hq hdr hv
 subst eh enx
 have hal := bl ds (.int .i64 (-1)) hdl
 by_cases hin : i < n + 2
 ·obtain ⟨x, hx⟩ := AI (xs := ds) (i := i) zO
  have hxw : ws[i]? = some x := by
   have := congrArg (·[0]?) hdr
   simp only [List.getElem?_drop, Nat.add_zero] at this; rw [← this]; exact hx
  have hxB := hq x (List.mem_of_getElem? hx)
  have hrd := bg ds (.int .i64 (-1)) i hdl hin
  have hwr := fun e => bs ds (.int .i64 (-1)) i e hdl hin
  obtain ⟨y, hy⟩ := AI (xs := enc B9 b) (i := i) zO
  have hyB := Ad AR b y (List.mem_of_getElem? hy)
  have hvy := AT (B := B9) hy
  obtain ⟨s1, s2, _⟩ := Eb AR hc hxB hyB
  have key : ∀ (st : St), st.fr 0 = .ref id m 0 m → st.fr 1 = natS b → st.fr 2 = .int .i64 pre.length → st.fr 6 = .int .i64 ((x + y + c) / 1000000000 : Nat) → st.fr 10 = natS b → st.fr 11 = .int .i64 ((n + 2 : Nat) : Int) → st.fr 12 = .int .i64 ((i + 1 : Nat) : Int) →
    st.h = upd h id ⟨2, natA .i64 pre ++ (natA .i64 (ds.set i ((x + y + c) % 1000000000)) ++ [.int .i64 (-1)]) ++ natA .i64 post, ex, gr, true⟩ → st.nx = nx1 → J st := by
   intro st r0 r1 r2 r6 r10 r11 r12 rh rn
   have e : x + y + c = c + x + y := by omega
   rw [e] at r6 rh
   refine hJ (i + 1, (c + x + y) / B9, ds.set i ((c + x + y) % B9)) st ⟨r0, r1, r2, r6, r10, r11, r12, rh, rn, by simp [hdl], hin, s1, CZ hq s2, CB hdr, ?_⟩ zT
   simp only
   rw [Bz zO, hvy, AT hxw]
   exact Hh hv
  clear hJ hv hvy hdr hd hxw hq hbN hwN hge hQ s1 s2 bl bg bs bt bz
  rw [hB] at hxB hyB
  simp (disch := omega) only [go_sem, h0, k1, h2, h6, h10, h11, h12, hal, hrd, hx, hy, hwr, hupd]
  exact key _ (by simp [AA, h0] <;> omega) (by simp [AA, k1, natS] <;> omega) (by simp [AA, h2] <;> omega) zV (by simp [AA, h10, natS] <;> omega) (by simp [AA, h11] <;> omega) zV rfl rfl
 ·obtain rfl : i = n + 2 := by omega
  have e1 : (enc B9 b).take (n + 2) = enc B9 b := List.take_of_length_le zO
  have e2 : ds.take (n + 2) = ds := List.take_of_length_le zO
  have e3 : ws.take (n + 2) = ws := List.take_of_length_le zO
  rw [e1, e2, e3, Aa AR] at hv
  have hdN : val B9 ds < B9 ^ (n + 2) := by rw [← hdl]; exact A9 hq
  have hc1 : c = 1 := XQ hv hdN hge hc
  subst hc1
  have hget := bt ds (.int .i64 (-1)) hdl
  have hset := fun w => bz ds (.int .i64 (-1)) w hdl
  have w1 : (-1 : Int) + ((1 : Nat) : Int) = 0 := by omega
  have hfin : natA .i64 pre ++ (natA .i64 ds ++ [AV.int .i64 0]) ++ natA .i64 post = natA .i64 (pre ++ padL B9 (n + 3) (val B9 ws + b - B9 ^ (n + 2)) ++ post) := by
   have : padL B9 (n + 3) (val B9 ws + b - B9 ^ (n + 2)) = ds ++ [0] := by
    refine (Jh AR (fun q hq' => ?_) (by simp [hdl]) (by rw [At]; simp only [val, Nat.mul_zero, Nat.add_zero]; exact XR hv)).symm
    rcases List.mem_append.1 hq' with h' | h'
    ·exact hq q h'
    ·simp at h'; rw [h', hB]; omega
   rw [this]; simp [natA]
  clear hJ hv hdr hd hq hbN hwN hge bl bg bs bt bz hdN
  have hl2 := hl
  simp (disch := omega) only [go_sem, h0, k1, h2, h6, h10, h11, h12, hal, hget, hset, hl2, AF, w1, hupd]
  rw [← hQ]
  exact Ky (.inr rfl) rfl (by rw [hfin]) rfl
section
theorem Hi {α : Type} (us : List α) (j n : Nat) : us = us.take j ++ (us.drop j).take n ++ us.drop (j + n) := by
 conv => lhs; rw [← List.take_append_drop j us, ← List.take_append_drop n (us.drop j), List.drop_drop]
 rw [List.append_assoc]
structure Nrm (B n V : Nat) : Prop where
 B0 : 1 < B
 len : (enc B V).length = n + 2
 half : ∀ t, (enc B V)[n + 1]? = some t → B ≤ 2 * t
theorem Nrm.pos {B n V : Nat} (h : Nrm B n V) : 0 < V := by
 rcases Nat.eq_zero_or_pos V with rfl | hp
 ·have := h.len; rw [AZ] at this; simp at this
 ·exact hp
theorem Nrm.lt {B n V : Nat} (h : Nrm B n V) : V < B ^ (n + 2) := by rw [← h.len]; exact Aw h.B0
structure Kn (B V U M n i : Nat) (us qs : List Nat) : Prop where
 lt : ∀ d ∈ us, d < B
 len : us.length = M + (n + 2)
 iM : i ≤ M
 qlt : ∀ d ∈ qs, d < B
 qlen : i + qs.length = M
 top : val B us / B ^ i < V
 sum : val B us + V * B ^ i * val B qs = U
section
variable {B V U M n j : Nat} {us qs : List Nat}
theorem Kn.win (h : Kn B V U M n (j + 1) us qs) (hN : Nrm B n V) : ((us.drop j).take (n + 3)).length = n + 3 ∧ (∀ d ∈ (us.drop j).take (n + 3), d < B) ∧ val B ((us.drop j).take (n + 3)) < V * B ∧ val B (us.drop (j + (n + 3))) = 0 ∧ val B ((us.drop j).take (n + 3)) = val B us / B ^ j := by
 have hB := hN.B0
 have hl := h.len; have hi := h.iM
 have hp : 0 < B ^ j := Nat.pow_pos zO
 have h1 : val B us / B ^ j < V * B := by
  have := h.top
  rw [Nat.pow_succ, ← Nat.div_div_eq_div_mul] at this
  exact (Nat.div_lt_iff_lt_mul zO).1 this
 have hV := hN.lt
 have h2 : V * B ≤ B ^ (n + 3) := by rw [show n + 3 = n + 2 + 1 by omega, Nat.pow_succ B]; exact Nat.mul_le_mul_right _ (Nat.le_of_lt hV)
 have h3 : val B ((us.drop j).take (n + 3)) = val B us / B ^ j := by
  rw [QN hB (fun d hd => h.lt d (List.mem_of_mem_drop hd)), Hd hB h.lt, Nat.mod_eq_of_lt zO]
 refine ⟨zW, fun d hd => h.lt d (List.mem_of_mem_drop (List.mem_of_mem_take hd)), by rw [h3]; exact h1, ?_, h3⟩
 rw [Hd hB h.lt, Nat.pow_add, ← Nat.div_div_eq_div_mul]
 exact Nat.div_eq_of_lt zO
theorem Kn.digs (h : Kn B V U M n (j + 1) us qs) (hN : Nrm B n V) : ∃ top next u1 u2 u3, (enc B V)[n + 1]? = some top ∧ (enc B V)[n]? = some next ∧ us[j + (n + 2)]? = some u1 ∧ us[j + (n + 1)]? = some u2 ∧ us[j + n]? = some u3 ∧
  top < B ∧ next < B ∧ u1 < B ∧ u2 < B ∧ u3 < B ∧ Digs B (B ^ n) V (val B ((us.drop j).take (n + 3))) top next (u1 * B + u2) u3 := by
 have hl := h.len; have hi := h.iM; have hVl := hN.len
 obtain ⟨top, ht⟩ := AI (xs := enc B V) (i := n + 1) zO
 obtain ⟨next, hn⟩ := AI (xs := enc B V) (i := n) zO
 obtain ⟨u1, h1⟩ := AI (xs := us) (i := j + (n + 2)) zO
 obtain ⟨u2, h2⟩ := AI (xs := us) (i := j + (n + 1)) zO
 obtain ⟨u3, h3⟩ := AI (xs := us) (i := j + n) zO
 obtain ⟨w1, w2, w3, w4, w5⟩ := h.win hN
 have e := fun k (hk : k < n + 3) => show ((us.drop j).take (n + 3))[k]? = us[j + k]? by rw [List.getElem?_take, if_pos hk, List.getElem?_drop]
 exact ⟨top, next, u1, u2, u3, ht, hn, h1, h2, h3, Ad hN.B0 V _ (List.mem_of_getElem? ht), Ad hN.B0 V _ (List.mem_of_getElem? hn), h.lt _ (List.mem_of_getElem? h1), h.lt _ (List.mem_of_getElem? h2), h.lt _ (List.mem_of_getElem? h3),
  Sp hN.B0 (Ad hN.B0 V) w2 hN.len w1 (Aa hN.B0 V) rfl ht hn ((e _ zO).trans h1) ((e _ zO).trans h2) ((e _ zO).trans h3) w3 (hN.half _ ht)⟩
theorem Kn.step (h : Kn B V U M n (j + 1) us qs) (hN : Nrm B n V) {q r : Nat} (hq : q = val B ((us.drop j).take (n + 3)) / V) (hr : r = val B ((us.drop j).take (n + 3)) % V) :
  Kn B V U M n j (us.take j ++ padL B (n + 3) r ++ us.drop (j + (n + 3))) (q :: qs) := by
 obtain ⟨w1, w2, w3, w4, w5⟩ := h.win hN
 have hB := hN.B0; have hl := h.len; have hi := h.iM
 have hV := hN.lt; have hV0 := hN.pos
 have hp : 0 < B ^ j := Nat.pow_pos zO
 have hrV : r < V := hr ▸ Nat.mod_lt _ hV0
 have hrB : r < B ^ (n + 3) := by
  have : B ^ (n + 2) ≤ B ^ (n + 3) := Nat.pow_le_pow_right zO zO
  omega
 have hpl := Fq hB hrB
 have hlj : (us.take j).length = j := by simp; omega
 have e1 : val B (us.take j ++ padL B (n + 3) r ++ us.drop (j + (n + 3))) = val B (us.take j) + B ^ j * r := by
  rw [At, At, w4, Dh hB, hlj]; simp
 have e2 : val B us = val B (us.take j) + B ^ j * val B ((us.drop j).take (n + 3)) := by
  conv => lhs; rw [Hi us j (n + 3), At, At, w4, hlj]
  simp
 have e3 := Nat.div_add_mod (val B ((us.drop j).take (n + 3))) V
 rw [← hq, ← hr] at e3
 have htl : val B (us.take j) < B ^ j := by
  have := A9 (B := B) (xs := us.take j) (fun d hd => h.lt d (List.mem_of_mem_take hd)); rwa [hlj] at this
 refine ⟨?_, by simp [hpl]; omega, zO, ?_, by have := h.qlen; simp; omega, ?_, ?_⟩
 ·intro d hd
  rcases List.mem_append.1 hd with hd | hd
  ·rcases List.mem_append.1 hd with hd | hd
   ·exact h.lt d (List.mem_of_mem_take hd)
   ·exact GM hB d hd
  ·exact h.lt d (List.mem_of_mem_drop hd)
 ·intro d hd
  rcases List.mem_cons.1 hd with rfl | hd
  ·rw [hq, Nat.div_lt_iff_lt_mul hV0, Nat.mul_comm]; exact w3
  ·exact h.qlt d hd
 ·rw [e1, Nat.add_mul_div_left _ _ hp, Nat.div_eq_of_lt htl, Nat.zero_add]; exact hrV
 ·have hs := h.sum
  rw [e2, ← e3] at hs
  rw [e1, val, ← hs, Nat.pow_succ]
  simp only [Nat.mul_add]
  have f1 : B ^ j * (V * q) = V * B ^ j * q := by rw [← Nat.mul_assoc, Nat.mul_comm (B ^ j) V]
  have f2 : V * (B ^ j * B) * val B qs = V * B ^ j * (B * val B qs) := by rw [← Nat.mul_assoc V, Nat.mul_assoc]
  rw [f1, f2]; omega
theorem Kn.done (h : Kn B V U M n 0 us qs) (hN : Nrm B n V) : val B qs = U / V ∧ val B us = U % V := by
 have h1 := h.top; have h2 := h.sum
 simp only [Nat.pow_zero, Nat.div_one, Nat.mul_one] at h1 h2
 have hV0 := hN.pos
 rw [← h2]
 exact ⟨by rw [Nat.add_mul_div_left _ _ hV0, Nat.div_eq_of_lt h1, Nat.zero_add], by rw [Nat.add_mul_mod_self_left, Nat.mod_eq_of_lt h1]⟩
theorem Kn.start {a b m : Nat} (hN : Nrm B n (b * m)) (hb : (enc B b).length = n + 2) (hm : 0 < m) (hla : n + 2 ≤ (enc B a).length) (hM : M = (enc B a).length + 1 - (n + 2)) (hmB : m ≤ B) :
  Kn B (b * m) (a * m) M n M (padL B ((enc B a).length + 1) (a * m)) [] := by
 have hB := hN.B0
 have hlt : a * m < B ^ ((enc B a).length + 1) := by
  rw [Nat.pow_succ]; exact Nat.lt_of_lt_of_le (Nat.mul_lt_mul_of_pos_right (Aw hB) hm) (Nat.mul_le_mul_left _ hmB)
 refine ⟨GM hB, by rw [Fq hB hlt]; omega, Nat.le_refl _, zS, zS, ?_, by simp [Dh hB, val]⟩
 rw [Dh hB]
 have hb0 : b ≠ 0 := by rintro rfl; simp [AZ] at hb
 have h1 := HZ hB hb0
 rw [hb, show n + 2 - 1 = n + 1 by omega] at h1
 have h2 := Aw hB (n := a)
 have e : (enc B a).length = M + (n + 1) := by omega
 rw [e, Nat.pow_add] at h2
 rw [Nat.div_lt_iff_lt_mul (Nat.pow_pos zO)]
 have h3 : a * m < B ^ M * B ^ (n + 1) * m := Nat.mul_lt_mul_of_pos_right h2 hm
 have h4 : B ^ M * B ^ (n + 1) * m ≤ B ^ M * b * m := Nat.mul_le_mul_right _ (Nat.mul_le_mul_left _ h1)
 have h5 : B ^ M * b * m = b * m * B ^ M := by rw [Nat.mul_assoc, Nat.mul_comm]
 omega
end
theorem QX {B n b m t : Nat} (hB : 1 < B) (hl : (enc B b).length = n + 2) (ht : (enc B b)[n + 1]? = some t) (h1 : (t + 1) * m ≤ B) (h2 : B ≤ 2 * (t * m)) : Nrm B n (b * m) := by
  have h3 := Cn B (enc B b) (n + 1)
  have hlt : ((enc B b).take (n + 1)).length = n + 1 := by simp; omega
  rw [hlt, Ak ht, List.drop_eq_nil_of_le (by omega), Aa hB] at h3
  simp only [val, Nat.mul_zero, Nat.add_zero] at h3
  have h4 : val B ((enc B b).take (n + 1)) < B ^ (n + 1) := by
    have := A9 (B := B) (xs := (enc B b).take (n + 1)) (fun d hd => Ad hB b d (List.mem_of_mem_take hd)); rwa [hlt] at this
  have hm : 0 < m := by rcases Nat.eq_zero_or_pos m with rfl | h; · simp at h2; omega
                        · exact h
  have hp : 0 < B ^ (n + 1) := Nat.pow_pos (by omega)
  have h5 : B ^ (n + 1) * (t * m) ≤ b * m := by
    have : B ^ (n + 1) * t * m ≤ b * m := Nat.mul_le_mul_right _ (by omega)
    rw [Nat.mul_assoc] at this; exact this
  have h6 : b * m < B ^ (n + 1) * B := by
    have h7 : b + 1 ≤ B ^ (n + 1) * (t + 1) := by rw [Nat.mul_add, Nat.mul_one]; omega
    have h8 : b * m < B ^ (n + 1) * (t + 1) * m := Nat.mul_lt_mul_of_pos_right h7 hm
    have h9 : B ^ (n + 1) * (t + 1) * m ≤ B ^ (n + 1) * B := by rw [Nat.mul_assoc]; exact Nat.mul_le_mul_left _ h1
    omega
  have hlen : (enc B (b * m)).length = n + 2 := by
    have a1 := Af hB (show b * m < B ^ (n + 2) by rw [show n + 2 = n + 1 + 1 by omega, Nat.pow_succ]; exact h6)
    have htm : 1 ≤ t * m := by omega
    have a2 := HV hB (show B ^ (n + 1) ≤ b * m from Nat.le_trans (by have := Nat.mul_le_mul_left (B ^ (n + 1)) htm; simpa using this) h5)
    omega
  refine ⟨hB, hlen, fun u hu => ?_⟩
  have h7 := GL hB (Ad hB (b * m)) hu
  rw [Aa hB, Nat.mod_eq_of_lt (by rw [Nat.div_lt_iff_lt_mul hp, Nat.mul_comm B]; exact h6)] at h7
  have h8 : t * m ≤ b * m / B ^ (n + 1) := by rw [Nat.le_div_iff_mul_le hp, Nat.mul_comm (t * m)]; exact h5
  omega
theorem Hj {a b m : Nat} (hm : 0 < m) : a * m / (b * m) = a / b ∧ a * m % (b * m) = a % b * m := ⟨Nat.mul_div_mul_right _ _ hm, Nat.mul_mod_mul_right ..⟩
end
theorem QY {fr : Nat → AV} {h : Nat → Blk} {nx id n : Nat} {xs : List Nat} (hlv : (h id).lv = true) (hn : (h id).xs.length = n) (ht : (h id).t = 132) (hlen : n < 9223372036854775808)
  (hl : xs.length ≤ n) (hxs : (h id).xs.take xs.length = natA .u32 xs) : InOk Tryz.prog ⟨fr, h, nx⟩ 105 [.ref id n 0 xs.length] (.ref id n 0 (trimZ xs).length) ⟨fr, h, nx⟩ := by
 refine Bd (W := fun _ => false) AS Tryz.func105 rfl zK zL (AC ?_)
 generalize hQ : PostIn Tryz.prog Tryz.f105 _ _ _ = Q
 simp (disch := omega) only [go_sem, List.getD_cons_zero, List.getD_cons_succ]
 refine AM (fun (ys : List Nat) st => st.fr 0 = .ref id n 0 ys.length ∧ st.h = h ∧ st.nx = nx ∧ ys.length ≤ n ∧ (h id).xs.take ys.length = natA .u32 ys ∧ trimZ ys = trimZ xs) (fun ys => ys.length) xs ⟨rfl, rfl, rfl, hl, hxs, rfl⟩ ?_
 rintro ys ⟨fr, h1, nx1⟩ ⟨h0, e1, e2, h3, h4, h5⟩ J hJ
 simp only at h0 e1 e2
 subst e1 e2
 rcases List.eq_nil_or_concat ys with rfl | ⟨zs, z, rfl⟩
 ·simp (disch := omega) only [go_sem, h0, hlv, hn]
  rw [← hQ]
  exact Bt (.inl rfl) rfl (by simp [AA, ← h5]; rfl) rfl rfl
 ·rw [List.concat_eq_append] at *
  have hl : (zs ++ [z]).length = zs.length + 1 := by simp
  rw [hl] at h0 h3 h4
  have hg : (h1 id).xs[zs.length]? = some (.int .u32 z) := by
   have := congrArg (·[zs.length]?) h4
   simp only [List.getElem?_take] at this
   rw [if_pos zO] at this
   rw [this]; exact Bv zS
  have h4' : (h1 id).xs.take zs.length = natA .u32 zs := by
   have := congrArg (List.take zs.length) h4
   rw [List.take_take, Nat.min_eq_left zO, Ay] at this
   simpa using this
  by_cases hz : z = 0
  ·simp (disch := omega) only [go_sem, h0, hg, hlv, hn, ht]
   refine hJ zs _ ⟨?_, rfl, rfl, zO, h4', by rw [← h5, hz, DX]⟩ zS
   simp [AA]
  ·simp (disch := omega) only [go_sem, h0, hg, hlv, hn, ht]
   rw [← hQ]
   exact Bt (.inl rfl) rfl (by simp [AA, ← h5, Ds _ hz]) rfl rfl
theorem ME : callable Tryz.prog 133 = true := by kernel_rfl
theorem S4 {X S T B : Nat} (hB : B = S * T) (hS : 0 < S) (hT : 0 < T) : X % (B * B) / S % B = X / S % B := by
 have h1 := Nat.div_add_mod X (B * B)
 have h2 : X / S = B * (T * (X / (B * B))) + X % (B * B) / S := by
  have e : X = S * (B * (T * (X / (B * B)))) + X % (B * B) := by
   have : S * (B * (T * (X / (B * B)))) = B * B * (X / (B * B)) := by
    rw [Nat.mul_left_comm S B, ← Nat.mul_assoc S T, ← hB, Nat.mul_assoc]
   omega
  conv => lhs; rw [e]
  rw [Nat.mul_add_div hS]
 rw [h2, Nat.mul_add_mod]
theorem QZ {B : Nat} (hB : 1 < B) {xs : List Nat} (h : ∀ d ∈ xs, d < B) {i x : Nat} (hx : xs[i]? = some x) : xs.getD (i + 1) 0 * B + x = val B xs / B ^ i % (B * B) := by
 have h1 := GL hB h hx
 have h2 : xs.getD (i + 1) 0 = val B xs / B ^ i / B % B := by
  rw [Nat.div_div_eq_div_mul, ← Nat.pow_succ]
  by_cases hi : i + 1 < xs.length
  ·exact GL hB h (getD_some hi)
  ·rw [B4 hi, Nat.div_eq_of_lt, Nat.zero_mod]
   exact Nat.lt_of_lt_of_le (A9 h) (Nat.pow_le_pow_right zO zO)
 rw [Nat.mod_mul, h2, h1, Nat.mul_comm B, Nat.add_comm]
theorem VP {B S T V i x L : Nat} (hB : 1 < B) (hST : B = S * T) (hS : 0 < S) (hT : 0 < T) (hL : V < B ^ L) (hx : (enc B V)[i]? = some x) (hi : i < L) : (padL B L (V / S))[i]? = some (((enc B V).getD (i + 1) 0 * B + x) / S % B) := by
 have hlt : V / S < B ^ L := Nat.lt_of_le_of_lt (Nat.div_le_self _ _) hL
 obtain ⟨y, hy⟩ := AI (xs := padL B L (V / S)) (i := i) (by rw [Fq hB hlt]; exact hi)
 rw [hy, GL hB (GM hB) hy, Dh hB, QZ hB (Ad hB V) hx, Aa hB, S4 hST hS hT, Nat.div_div_eq_div_mul, Nat.div_div_eq_div_mul, Nat.mul_comm S]
theorem IT {α : Type} {R T : List α} {i : Nat} {v : α} (hT : T[i]? = some v) (hl : i < R.length) : (T.take i ++ R.drop i).set i v = T.take (i + 1) ++ R.drop (i + 1) := by
 have hlt := (List.getElem?_eq_some_iff.1 hT).1
 have h1 : (T.take i).length = i := by simp; omega
 rw [List.set_append_right _ _ zO, h1, Nat.sub_self, List.drop_eq_getElem_cons hl, List.set_cons_zero, List.take_add_one, hT]
 simp
set_option maxHeartbeats 1000000 in
theorem Ui (a b : Nat) (ha : (enc B32 a).length ≤ 1099511627775) (hb0 : b ≠ 0) (hb : (enc B32 b).length ≤ 1099511627775) : CallOk Tryz.prog 133 [natI a, natI b] (.tup [natI (a / b), natI (a % b)]) [] := by
  by_cases hab : a < b
  · have e1 : a / b = 0 := Nat.div_eq_of_lt hab
    have e2 : a % b = a := Nat.mod_eq_of_lt hab
    rw [e1, e2]
    refine CallOk.res (r := .tup [.nil, natI a]) ?_ (Ja (SubL.cons (by unfold natI; rw [AZ]; exact G6) (SubL.refl _)))
    (refine AB (W := fun g => g == 105 || g == 146 || g == 147) false AS Tryz.func133 rfl (by kernel_rfl) (Nat.le_of_ble_eq_true rfl) (AC ?_); generalize hQ : Post Tryz.prog Tryz.f133 _ _ _ _ _ = Q; simp only [stIn, matL, matA, st00, natI])
    simp (disch := omega) only [go_sem]
    refine AD (Gj a b (by omega) (by omega)) Co (by simp [evA, AA, ofVal, ofCell, natI]) (by simp [AV.pure, AV.pureL]) (by simp [AV.pure, AV.pureL]) ?_
    have hc := BS hab
    simp (disch := omega) only [go_sem, hc]
    rw [← hQ]
    exact Ag (.inl rfl) rfl (by simp [AA] <;> omega) (by simp [AA, natI] <;> omega) rfl (by simp)
  by_cases hb1 : (enc B32 b).length = 1
  · obtain ⟨d, hd⟩ := AI (xs := enc B32 b) (i := 0) (by omega)
    have hdB := Ad AJ b d (List.mem_of_getElem? hd)
    have hbd : b = d := by
      have h1 := Ak hd
      rw [List.drop_zero, List.drop_eq_nil_of_le (by omega)] at h1
      have := Aa AJ b
      rw [h1] at this; simpa [val] using this.symm
    have hd0 : 0 < d := by omega
    (refine AB (W := fun g => g == 105 || g == 146 || g == 147) false AS Tryz.func133 rfl (by kernel_rfl) (Nat.le_of_ble_eq_true rfl) (AC ?_); generalize hQ : Post Tryz.prog Tryz.f133 _ _ _ _ _ = Q; simp only [stIn, matL, matA, st00, natI])
    simp (disch := omega) only [go_sem]
    refine AD (Gj a b (by omega) (by omega)) Co (by simp [evA, AA, ofVal, ofCell, natI]) (by simp [AV.pure, AV.pureL]) (by simp [AV.pure, AV.pureL]) ?_
    have hc : ¬ cmpI a b < 0 := by simp only [cmpI]; rw [if_neg hab]; split <;> omega
    have hn0 : (enc B32 b)[Int.toNat 0]? = some d := hd
    simp (disch := omega) only [go_sem, hb1, hn0]
    have hB : B32 = 4294967296 := rfl
    refine AD (MA a d (by omega) hd0 (by rw [← hB]; exact hdB)) Ku (by simp [evA, AA, ofVal, ofCell, natI]) (by simp [AV.pure, AV.pureL]) (by simp [AV.pure, AV.pureL]) ?_
    simp (disch := omega) only [go_sem]
    have e1 : [AV.int .u32 ((a % d : Nat) : Int)] = natA .u32 [a % d] := rfl
    rw [e1]
    refine AD (ND [a % d] true (by simp)) Cw (by simp [evA, AA, ofVal, ofCell]) (by simp [AV.pure, AV.pureL]) (by simp [AV.pure, AV.pureL]) ?_
    simp (disch := omega) only [go_sem]
    have e2 : trimZ [a % d] = enc B32 (a % d) := by
      rw [A1 AJ (by intro q hq; simp at hq; rw [hq]; exact Nat.lt_trans (Nat.mod_lt _ hd0) hdB)]; simp [val]
    rw [e2, ← hQ]
    exact Ag (.inl rfl) rfl (by simp [AA, natI, hbd] <;> omega) (by simp [AA, natI, hbd] <;> omega) (by simp) (by simp)
  obtain ⟨n, hn⟩ : ∃ n, (enc B32 b).length = n + 2 := ⟨(enc B32 b).length - 2, by
    have : (enc B32 b).length ≠ 0 := fun h => hb0 ((G7 AJ).1 (List.length_eq_zero_iff.1 h))
    omega⟩
  obtain ⟨na, hna⟩ : ∃ na, (enc B32 a).length = na := ⟨_, rfl⟩
  have hB : B32 = 4294967296 := rfl
  have hla : n + 2 ≤ na := by
    rw [← hn, ← hna]
    rcases Nat.lt_or_ge (enc B32 a).length (enc B32 b).length with h | h
    · exact absurd (EG AJ h) hab
    · exact h
  obtain ⟨tp, htp⟩ := AI (xs := enc B32 b) (i := n + 1) (by omega)
  have htpB : tp < 4294967296 := Ad AJ b tp (List.mem_of_getElem? htp)
  have htp0 : tp ≠ 0 := Kk AJ b tp (by rw [List.getLast?_eq_getElem?, hn]; exact htp)
  obtain ⟨m1, m2, m3⟩ := QS htpB htp0
  obtain ⟨s, hs⟩ : ∃ s, 32 - len2 tp = s := ⟨_, rfl⟩
  rw [hs] at m1 m2 m3
  obtain ⟨S, hS⟩ : ∃ S, 2 ^ s = S := ⟨_, rfl⟩
  have hS0 : 0 < S := hS ▸ Nat.pow_pos (by omega)
  obtain ⟨T, hST⟩ : ∃ T, B32 = S * T := ⟨2 ^ (32 - s), by rw [← hS, ← Nat.pow_add, show s + (32 - s) = 32 by omega]; rfl⟩
  have hT0 : 0 < T := by rcases Nat.eq_zero_or_pos T with rfl | h; · rw [Nat.mul_zero] at hST; cases hST
                         · exact h
  rw [hS] at m1 m2
  have m4 : (tp + 1) * S ≤ B32 := by
    rw [hST, Nat.mul_comm S T]
    refine Nat.mul_le_mul_right _ ?_
    have : tp * S < T * S := by rw [Nat.mul_comm T S, ← hST, hB]; exact m2
    exact Nat.lt_of_mul_lt_mul_right this
  have hSB : S ≤ B32 := by have := Nat.mul_le_mul_left S hT0; rw [hST]; omega
  have hN := QX AJ hn htp m4 (by rw [hB]; omega)
  obtain ⟨V, hV⟩ : ∃ V, b * S = V := ⟨_, rfl⟩
  obtain ⟨U, hU⟩ : ∃ U, a * S = U := ⟨_, rfl⟩
  obtain ⟨M, hM⟩ : ∃ M, M = na + 1 - (n + 2) := ⟨_, rfl⟩
  have hK := Kn.start (a := a) (M := M) hN hn hS0 (by omega) (by omega) hSB
  rw [hV] at hN
  rw [hV, hU, hna] at hK
  have hsa : shiftL a s = padL B32 (na + 1) U := by rw [shiftL, hS, hU, hna, padL]
  have hsb : trimZ (shiftL b s) = enc B32 V := by
    have : shiftL b s = padL B32 (n + 3) V := by rw [shiftL, hS, hV, hn, padL]
    have hlt : V < B32 ^ (n + 3) := Nat.lt_trans hN.lt (Nat.pow_lt_pow_right AJ (by omega))
    rw [this, A1 AJ (GM AJ), Dh AJ]
  have hpl : (padL B32 (na + 1) U).length = na + 1 := by rw [hK.len]; omega
  have hsbl : (shiftL b s).length = n + 3 := by
    have := Af AJ (show b * 2 ^ s < B32 ^ (n + 3) from by rw [hS, hV]; exact Nat.lt_trans hN.lt (Nat.pow_lt_pow_right AJ (by omega)))
    simp [shiftL, hn]; omega
  obtain ⟨f1, f2⟩ := Hj (a := a) (b := b) hS0
  rw [hU, hV] at f1 f2
  have hVl := hN.len
  clear hsbl
  (refine AB (W := fun g => g == 105 || g == 146 || g == 147) false AS Tryz.func133 rfl (by kernel_rfl) (Nat.le_of_ble_eq_true rfl) (AC ?_); generalize hQ : Post Tryz.prog Tryz.f133 _ _ _ _ _ = Q; simp only [stIn, matL, matA, st00, natI])
  simp (disch := omega) only [go_sem]
  refine AD (Gj a b (by omega) (by omega)) Co (by simp [evA, AA, ofVal, ofCell, natI]) (by simp [AV.pure, AV.pureL]) (by simp [AV.pure, AV.pureL]) ?_
  have hc : ¬ cmpI a b < 0 := by simp only [cmpI]; rw [if_neg hab]; split <;> omega
  have e1 : ((n + 2 : Nat) : Int) - 1 = ((n + 1 : Nat) : Int) := by omega
  simp (disch := omega) only [go_sem, hb1, hn, e1, htp]
  refine AD (GO tp htpB htp0) GN (by simp [evA, AA]) (by simp [AV.pure, AV.pureL]) rfl ?_
  rw [hs]
  simp (disch := omega) only [go_sem]
  refine M4 (Iv a s (by omega) m3) Hg (by simp [evA, AA, natI]) (by simp [AV.pure, AV.pureL]) (Ae _ _) rfl rfl ?_
  simp only [List.append_nil, List.length_nil, Nat.add_zero, AF, hsa, hpl]
  simp (disch := omega) only [go_sem]
  refine M4 (Iv b s (by omega) m3) Hg (by simp [evA, AA, natI]) (by simp [AV.pure, AV.pureL]) (Ae _ _) rfl rfl ?_
  simp only [List.append_nil, List.length_nil, Nat.add_zero, AF]
  refine DB (Ea ((shiftL b s).take (shiftL b s).length) (by simp; have := Af AJ hN.lt; simp [shiftL, hS, hV, hn]; omega)) Cw (by simp [evA, AA]) (B3 (id := 1) (st := ⟨_, _, _⟩) (by simp [AA]) rfl (Nat.le_refl _)) (by simp [AA]) (by simp [AV.pure, AV.pureL]) (by simp [AV.pure, AV.pureL]) (by simp) ?_
  rw [List.take_length, hsb]
  obtain ⟨top, next, ht1, ht2⟩ : ∃ top next, (enc B32 V)[n + 1]? = some top ∧ (enc B32 V)[n]? = some next := by
    obtain ⟨x, hx⟩ := AI (xs := enc B32 V) (i := n + 1) (by omega)
    obtain ⟨y, hy⟩ := AI (xs := enc B32 V) (i := n) (by omega)
    exact ⟨x, y, hx, hy⟩
  have htB : top < B32 := Ad AJ V _ (List.mem_of_getElem? ht1)
  have hnB : next < B32 := Ad AJ V _ (List.mem_of_getElem? ht2)
  have hhalf := hN.half _ ht1
  have e2 : ((n + 2 : Nat) : Int) - 2 = (n : Int) := by omega
  have e3 : ((na + 1 : Nat) : Int) - ((n + 2 : Nat) : Int) = (M : Int) := by omega
  rw [hB] at htB hnB hhalf
  simp (disch := omega) only [go_sem, ↓BX, hVl, e1, e2, e3, ht1, ht2, reach, hpl, List.length_replicate]; try unfold goB
  obtain ⟨R, hR⟩ : ∃ R : Nat × List Nat × List Nat → St → Prop, R = fun p st => st.fr 8 = .int .i64 s ∧ st.fr 9 = .ref 0 (na + 1) 0 (na + 1) ∧ st.fr 10 = natI V ∧ st.fr 11 = .int .u64 top ∧ st.fr 12 = .int .u64 next ∧ st.fr 13 = .ref 2 M 0 M ∧ st.fr 14 = .int .i64 ((p.1 : Int) - 1) ∧
      st.h 0 = ⟨132, natA .u32 p.2.1, true, true, true⟩ ∧ st.h 2 = ⟨132, natA .u32 (List.replicate p.1 0 ++ p.2.2), true, true, true⟩ ∧ Kn B32 V U M n p.1 p.2.1 p.2.2 := ⟨_, rfl⟩
  obtain ⟨F, hF⟩ : ∃ F : St → Prop, F = fun st => st.fr 8 = .int .i64 s ∧ st.fr 9 = .ref 0 (na + 1) 0 (na + 1) ∧ st.fr 13 = .ref 2 M 0 M ∧ ∃ us qs, st.h 0 = ⟨132, natA .u32 us, true, true, true⟩ ∧ st.h 2 = ⟨132, natA .u32 qs, true, true, true⟩ ∧ Kn B32 V U M n 0 us qs := ⟨_, rfl⟩
  have hMn : M + (n + 2) = na + 1 := by omega
  have hnab : na ≤ 1099511627775 := by omega
  refine Do F ?_ ?_
  · simp (disch := omega) only [go_sem]
    clear hb0 hab hb1 hb ha hc e1 e2 e3 hsa hsb m1 m2 m4 hSB hST hT0 f1 f2 hs htp0 htpB htp hQ
    refine AM R (fun p => p.1) (M, padL B32 (na + 1) U, []) (by rw [hR]; exact ⟨(by simp [AA] <;> omega), (by simp [AA] <;> omega), (by simp [AA, natI] <;> omega), (by simp [AA] <;> omega), (by simp [AA] <;> omega), (by simp [AA] <;> omega), (by simp [AA] <;> omega), by simp [AA, DZ], by simp [AA, DZ], hK⟩) ?_
    clear hK hn hna hla hM hpl hV hU hS hS0
    rintro ⟨i, us, qs⟩ ⟨fr, h, nx⟩ hst J hJ
    rw [hR] at hst
    obtain ⟨h8, h9, h10, h11, h12, h13, h14, hm0, hm2, hK⟩ := hst
    simp only [natI] at h8 h9 h10 h11 h12 h13 h14 hm0 hm2 hK
    have hul : us.length = na + 1 := by rw [hK.len]; omega
    rcases Nat.eq_zero_or_pos i with rfl | hp
    · simp (disch := omega) only [go_sem, h8, h9, h10, h11, h12, h13, h14]
      rw [hF]
      exact ⟨(by simp [AA, h8] <;> omega), (by simp [AA, h9] <;> omega), (by simp [AA, h13] <;> omega), us, qs, hm0, by simpa using hm2, hK⟩
    · obtain ⟨j, rfl⟩ : ∃ j, i = j + 1 := ⟨i - 1, by omega⟩
      have hjM := hK.iM
      obtain ⟨top', next', u1, u2, u3, g1, g2, g3, g4, g5, c1, c2, c3, c4, c5, hD⟩ := hK.digs hN
      obtain rfl : top' = top := by rw [ht1] at g1; exact (Option.some.inj g1).symm
      obtain rfl : next' = next := by rw [ht2] at g2; exact (Option.some.inj g2).symm
      obtain ⟨W, hW⟩ : ∃ W, val B32 ((us.drop j).take (n + 3)) = W := ⟨_, rfl⟩
      rw [hW] at hD
      obtain ⟨x, hx⟩ : ∃ x, u1 * 4294967296 + u2 = x := ⟨_, rfl⟩
      have hx' : u1 * B32 + u2 = x := by rw [hB]; exact hx
      rw [hx'] at hD
      rw [hB] at c3 c4 c5
      have htop0 : ¬ (top' : Int) = 0 := by omega
      have e4 : ((j + (n + 2) : Nat) : Int) - 1 = ((j + (n + 1) : Nat) : Int) := by omega
      have e5 : ((j + (n + 2) : Nat) : Int) - 2 = ((j + n : Nat) : Int) := by omega
      have e6 : ((j + 1 : Nat) : Int) - 1 = (j : Int) := by omega
      rw [e6] at h14
      have hul2 : (natA .u32 us).length = na + 1 := by rw [AF, hul]
      obtain ⟨d0, hd0⟩ : ∃ d0, x / top' = d0 := ⟨_, rfl⟩
      obtain ⟨r0, hr0⟩ : ∃ r0, x % top' = r0 := ⟨_, rfl⟩
      have hst0 := hD.start
      have hst1 := hD.first
      have hst2 : d0 * top' + r0 = x := by rw [← hd0, ← hr0, Nat.mul_comm]; exact Nat.div_add_mod x top'
      have hst3 : r0 < top' := hr0 ▸ Nat.mod_lt _ (by omega)
      rw [hd0] at hst0 hst1
      simp (disch := omega) only [go_sem, ↓BX, h8, h9, h10, h11, h12, h13, h14]; try unfold goB
      rw [Dg]
      have hx2 : x < 18446744073709551616 := by omega
      have hd0b : d0 ≤ 4294967297 := by rw [hB] at hst1; exact hst1
      simp (disch := omega) only [go_sem, ↓BX, h8, h9, h10, h11, h12, h13, h14, hVl, e4, e5, hm0, hul2, g3, g4, hx, htop0, hd0, hr0]; try unfold goB
      obtain ⟨G, hG⟩ : ∃ G : St → Prop, G = fun st => st.fr 8 = .int .i64 s ∧ st.fr 9 = .ref 0 (na + 1) 0 (na + 1) ∧ st.fr 10 = natI V ∧ st.fr 11 = .int .u64 top' ∧ st.fr 12 = .int .u64 next' ∧ st.fr 13 = .ref 2 M 0 M ∧ st.fr 14 = .int .i64 j ∧ st.fr 15 = .int .i64 ((j + (n + 2) : Nat) : Int) ∧
          st.h 0 = ⟨132, natA .u32 us, true, true, true⟩ ∧ st.h 2 = ⟨132, natA .u32 (List.replicate (j + 1) 0 ++ qs), true, true, true⟩ ∧ ∃ d, st.fr 17 = .int .u64 d ∧ Est B32 V W d := ⟨_, rfl⟩
      refine Do G ?_ ?_
      · simp (disch := omega) only [go_sem]
        clear hJ hR hF
        obtain ⟨R2, hR2⟩ : ∃ R2 : Nat × Nat → St → Prop, R2 = fun p st => st.fr 8 = .int .i64 s ∧ st.fr 9 = .ref 0 (na + 1) 0 (na + 1) ∧ st.fr 10 = natI V ∧ st.fr 11 = .int .u64 top' ∧ st.fr 12 = .int .u64 next' ∧ st.fr 13 = .ref 2 M 0 M ∧ st.fr 14 = .int .i64 j ∧ st.fr 15 = .int .i64 ((j + (n + 2) : Nat) : Int) ∧
          st.h 0 = ⟨132, natA .u32 us, true, true, true⟩ ∧ st.h 2 = ⟨132, natA .u32 (List.replicate (j + 1) 0 ++ qs), true, true, true⟩ ∧ st.fr 17 = .int .u64 p.1 ∧ st.fr 18 = .int .u64 p.2 ∧ p.1 * top' + p.2 = x ∧ W < (p.1 + 1) * V ∧ p.1 ≤ 4294967297 ∧ p.2 < 4294967296 := ⟨_, rfl⟩
        refine AM R2 (fun p => p.1) (d0, r0) (by rw [hR2]; exact ⟨(by simp [AA, h8] <;> omega), (by simp [AA, h9] <;> omega), (by simp [AA, h10, natI] <;> omega), (by simp [AA, h11] <;> omega), (by simp [AA, h12] <;> omega), (by simp [AA, h13] <;> omega), (by simp [AA, h14] <;> omega), (by simp [AA] <;> omega), hm0, hm2, (by simp [AA] <;> omega), (by simp [AA] <;> omega), hst2, hst0, hd0b, by simp only; omega⟩) ?_
        clear h8 h9 h10 h11 h12 h13 h14 hm0 hm2 hst0 hst1 hst2 hst3 hd0 hr0 hd0b
        rintro ⟨d, r⟩ ⟨fr, h, nx⟩ hst J2 hJ2
        rw [hR2] at hst
        obtain ⟨h8, h9, h10, h11, h12, h13, h14, h15, hm0, hm2, h17, h18, q1, q2, q3, q4⟩ := hst
        simp only [natI] at h8 h9 h10 h11 h12 h13 h14 h15 hm0 hm2 h17 h18 q1 q2 q3 q4
        have key : 4294967296 ≤ d ∨ r * 4294967296 + u3 < d * next' → 0 < d ∧ ((d : Int) - 1 = ((d - 1 : Nat) : Int)) ∧ (∀ st : St, st.fr 8 = .int .i64 s → st.fr 9 = .ref 0 (na + 1) 0 (na + 1) → st.fr 10 = natI V → st.fr 11 = .int .u64 top' → st.fr 12 = .int .u64 next' → st.fr 13 = .ref 2 M 0 M → st.fr 14 = .int .i64 j → st.fr 15 = .int .i64 ((j + (n + 2) : Nat) : Int) →
            st.h = h → st.fr 17 = .int .u64 ((d - 1 : Nat) : Int) → st.fr 18 = .int .u64 ((r + top' : Nat) : Int) → r + top' < 4294967296 → J2 st) ∧ (4294967296 ≤ r + top' → Est B32 V W (d - 1)) := by
          intro hc
          rw [← hB] at hc
          obtain ⟨p1, p2, p3⟩ := hD.less q1 hc
          refine ⟨p1, by omega, fun st r8 r9 r10 r11 r12 r13 r14 r15 rh r17 r18 hr => hJ2 (d - 1, r + top') st ?_ (by simp only; omega), fun hr => ?_⟩
          · rw [hR2]; exact ⟨r8, r9, r10, r11, r12, r13, r14, r15, by rw [rh]; exact hm0, by rw [rh]; exact hm2, r17, r18, p3, p2, by simp only; omega, hr⟩
          · refine hD.early p3 p2 ?_ (by rw [hB]; exact hr)
            rcases Nat.lt_or_ge B32 d with h' | h'
            · have := hD.small q1 h'; rw [hB] at this; omega
            · omega
        have fin : d < 4294967296 → d * next' ≤ r * 4294967296 + u3 → Est B32 V W d := fun a b => hD.done q1 q2 (by rw [hB]; exact a) (by rw [hB]; exact b)
        clear hJ2 hR2 q1 q2 hD hN hK
        obtain ⟨z, hz⟩ : ∃ z, d * next' = z := ⟨_, rfl⟩
        rw [hz] at key fin
        by_cases hdB : 4294967296 ≤ d
        · obtain ⟨p1, p2, p3, p4⟩ := key (.inl hdB)
          by_cases hr : 4294967296 ≤ r + top'
          · simp (disch := omega) only [go_sem, h8, h9, h10, h11, h12, h13, h14, h15, h17, h18, p2]
            rw [hG]; exact ⟨(by simp [AA, h8] <;> omega), (by simp [AA, h9] <;> omega), (by simp [AA, h10, natI] <;> omega), (by simp [AA, h11] <;> omega), (by simp [AA, h12] <;> omega), (by simp [AA, h13] <;> omega), (by simp [AA, h14] <;> omega), (by simp [AA, h15] <;> omega), hm0, hm2, d - 1, (by simp [AA] <;> omega), p4 hr⟩
          · simp (disch := omega) only [go_sem, h8, h9, h10, h11, h12, h13, h14, h15, h17, h18, p2]
            exact p3 _ (by simp [AA, h8] <;> omega) (by simp [AA, h9] <;> omega) (by simp [AA, h10, natI] <;> omega) (by simp [AA, h11] <;> omega) (by simp [AA, h12] <;> omega) (by simp [AA, h13] <;> omega) (by simp [AA, h14] <;> omega) (by simp [AA, h15] <;> omega) rfl (by simp [AA] <;> omega) (by simp [AA] <;> omega) (by omega)
        · have hzb : z ≤ 4294967295 * 4294967295 := by rw [← hz]; exact Nat.mul_le_mul (by omega) (by omega)
          by_cases hcc : r * 4294967296 + u3 < z
          · obtain ⟨p1, p2, p3, p4⟩ := key (.inr hcc)
            by_cases hr : 4294967296 ≤ r + top'
            · simp (disch := omega) only [go_sem, h8, h9, h10, h11, h12, h13, h14, h15, h17, h18, p2, e5, hm0, hul2, g5, hz]
              rw [hG]; exact ⟨(by simp [AA, h8] <;> omega), (by simp [AA, h9] <;> omega), (by simp [AA, h10, natI] <;> omega), (by simp [AA, h11] <;> omega), (by simp [AA, h12] <;> omega), (by simp [AA, h13] <;> omega), (by simp [AA, h14] <;> omega), (by simp [AA, h15] <;> omega), hm0, hm2, d - 1, (by simp [AA] <;> omega), p4 hr⟩
            · simp (disch := omega) only [go_sem, h8, h9, h10, h11, h12, h13, h14, h15, h17, h18, p2, e5, hm0, hul2, g5, hz]
              exact p3 _ (by simp [AA, h8] <;> omega) (by simp [AA, h9] <;> omega) (by simp [AA, h10, natI] <;> omega) (by simp [AA, h11] <;> omega) (by simp [AA, h12] <;> omega) (by simp [AA, h13] <;> omega) (by simp [AA, h14] <;> omega) (by simp [AA, h15] <;> omega) rfl (by simp [AA] <;> omega) (by simp [AA] <;> omega) (by omega)
          · simp (disch := omega) only [go_sem, h8, h9, h10, h11, h12, h13, h14, h15, h17, h18, e5, hm0, hul2, g5, hz]
            rw [hG]; exact ⟨(by simp [AA, h8] <;> omega), (by simp [AA, h9] <;> omega), (by simp [AA, h10, natI] <;> omega), (by simp [AA, h11] <;> omega), (by simp [AA, h12] <;> omega), (by simp [AA, h13] <;> omega), (by simp [AA, h14] <;> omega), (by simp [AA, h15] <;> omega), hm0, hm2, d, (by simp [AA, h17] <;> omega), fin (by omega) (by omega)⟩
      clear h8 h9 h10 h11 h12 h13 h14 hm0 hm2 hst0 hst1 hst2 hst3 hd0 hr0 hd0b
      rintro ⟨fr, h, nx⟩ hst
      rw [hG] at hst
      obtain ⟨h8, h9, h10, h11, h12, h13, h14, h15, hm0, hm2, d, h17, hE⟩ := hst
      simp only [natI] at h8 h9 h10 h11 h12 h13 h14 h15 hm0 hm2 h17
      obtain ⟨w1, w2, w3, w4, w5⟩ := hK.win hN
      have hlj : (us.take j).length = j := by simp; omega
      have hsub : j + (n + 2) + 1 - j = n + 3 := by omega
      have hdlt := hE.lt
      have hdlow := hE.low
      have hV0 := hN.pos
      have hul2 : (natA .u32 us).length = na + 1 := by rw [AF, hul]
      have hdB2 : d < 4294967296 := by rw [← hB]; exact hdlt
      simp (disch := omega) only [go_sem, h8, h9, h10, h11, h12, h13, h14, h15, h17, hm0, hul2, hsub]
      refine Ez (MD (id := 0) (n := na + 1) (pre := us.take j) (ws := (us.drop j).take (n + 3)) (post := us.drop (j + (n + 3))) V d (by rw [← Hi]; exact hm0) (by rw [← Hi]; exact hul) w2 (by rw [w1, hVl]; omega) (by omega) hdlt (by rw [hW]; exact hdlow)) Kx (by rw [hlj, w1]; simp [evA, AA, natI]) (.inl rfl) ?_
      rw [hW, w1]
      have e7 : (natA .u32 (List.replicate (j + 1) 0 ++ qs)).length = M := by have := hK.qlen; rw [AF]; simp; omega
      have e8 : (List.replicate (j + 1) 0 ++ qs)[j]? = some 0 := by rw [List.getElem?_append_left (by simp), List.getElem?_replicate, if_pos (by omega)]
      have hdm := Nat.div_add_mod' W V
      by_cases hover : W < d * V
      · obtain ⟨p1, p2, p3, p4⟩ := hE.over hV0 hover
        have haw : awayV W V d = W % V := by rw [awayV, if_pos hover, p3, p2]; omega
        have hK' := hK.step hN (q := d - 1) (r := W % V) (by rw [hW]; exact p2) (by rw [hW])
        have hd1 : (d : Int) - 1 = ((d - 1 : Nat) : Int) := by omega
        have hdec : decide (W < d * V) = true := by simpa using hover
        rw [haw, hdec]
        have key : ∀ st : St, st.fr 8 = .int .i64 s → st.fr 9 = .ref 0 (na + 1) 0 (na + 1) → st.fr 10 = natI V → st.fr 11 = .int .u64 top' → st.fr 12 = .int .u64 next' → st.fr 13 = .ref 2 M 0 M → st.fr 14 = .int .i64 ((j : Int) - 1) →
            st.h 0 = ⟨132, natA .u32 (us.take j ++ padL B32 (n + 3) (W % V) ++ us.drop (j + (n + 3))), true, true, true⟩ → st.h 2 = ⟨132, natA .u32 (List.replicate j 0 ++ (d - 1) :: qs), true, true, true⟩ → J st :=
          fun st r8 r9 r10 r11 r12 r13 r14 rh0 rh2 => hJ (j, us.take j ++ padL B32 (n + 3) (W % V) ++ us.drop (j + (n + 3)), (d - 1) :: qs) st (by rw [hR]; exact ⟨r8, r9, r10, r11, r12, r13, r14, rh0, rh2, hK'⟩) (by simp only; omega)
        clear hJ hover haw hdm p2 p3 p4 hE hdlow hdlt hR hF hD hK hK' w1 w2 w3 w4 w5
        simp (disch := omega) only [go_sem, h8, h9, h10, h11, h12, h13, h14, h15, h17, hd1, hm2, e7, e8]
        exact key _ (by simp [AA, h8] <;> omega) (by simp [AA, h9] <;> omega) (by simp [AA, h10, natI] <;> omega) (by simp [AA, h11] <;> omega) (by simp [AA, h12] <;> omega) (by simp [AA, h13] <;> omega) (by simp [AA] <;> omega) (by simp [AA]) (by simp only [AA, ↓reduceIte, Bl])
      · have hq := hE.right hV0 (by omega)
        have haw : awayV W V d = W % V := by rw [awayV, if_neg hover, hq]; omega
        have hK' := hK.step hN (q := d) (r := W % V) (by rw [hW]; exact hq) (by rw [hW])
        have hdec : decide (W < d * V) = false := by simpa using hover
        rw [haw, hdec]
        have key : ∀ st : St, st.fr 8 = .int .i64 s → st.fr 9 = .ref 0 (na + 1) 0 (na + 1) → st.fr 10 = natI V → st.fr 11 = .int .u64 top' → st.fr 12 = .int .u64 next' → st.fr 13 = .ref 2 M 0 M → st.fr 14 = .int .i64 ((j : Int) - 1) →
            st.h 0 = ⟨132, natA .u32 (us.take j ++ padL B32 (n + 3) (W % V) ++ us.drop (j + (n + 3))), true, true, true⟩ → st.h 2 = ⟨132, natA .u32 (List.replicate j 0 ++ d :: qs), true, true, true⟩ → J st :=
          fun st r8 r9 r10 r11 r12 r13 r14 rh0 rh2 => hJ (j, us.take j ++ padL B32 (n + 3) (W % V) ++ us.drop (j + (n + 3)), d :: qs) st (by rw [hR]; exact ⟨r8, r9, r10, r11, r12, r13, r14, rh0, rh2, hK'⟩) (by simp only; omega)
        clear hJ hover haw hdm hq hE hdlow hdlt hR hF hD hK hK' w1 w2 w3 w4 w5
        simp (disch := omega) only [go_sem, h8, h9, h10, h11, h12, h13, h14, h15, h17, hm2, e7, e8]
        exact key _ (by simp [AA, h8] <;> omega) (by simp [AA, h9] <;> omega) (by simp [AA, h10, natI] <;> omega) (by simp [AA, h11] <;> omega) (by simp [AA, h12] <;> omega) (by simp [AA, h13] <;> omega) (by simp [AA] <;> omega) (by simp [AA]) (by simp only [AA, ↓reduceIte, Bl])
  rintro ⟨fr, h, nx⟩ hst
  rw [hF] at hst
  obtain ⟨h8, h9, h13, us, qs, hm0, hm2, hK⟩ := hst
  simp only at h8 h9 h13 hm0 hm2
  obtain ⟨z1, z2⟩ := hK.done hN
  have hul : us.length = na + 1 := by rw [hK.len, hMn]
  have hqlen : qs.length = M := by have := hK.qlen; omega
  have husd := hK.lt
  have hqd := hK.qlt
  rw [f1] at z1
  rw [f2] at z2
  have htz : trimZ us = enc B32 (a % b * S) := by rw [A1 AJ husd, z2]
  obtain ⟨L, hL⟩ : ∃ L, (enc B32 (a % b * S)).length = L := ⟨_, rfl⟩
  have hLna : L ≤ na + 1 := by
    rw [← hL, ← z2]
    exact Af AJ (by rw [← hul]; exact A9 husd)
  have hpad := Jg AJ husd
  rw [z2, hul, hL] at hpad
  have hqt : trimZ (qs.take M) = enc B32 (a / b) := by rw [List.take_of_length_le (by omega), A1 AJ hqd, z1]
  clear hb0 hab hb1 hb ha hc e1 e2 e3 hsa hsb m1 m2 m4 hSB f1 f2 hs htp0 htpB htp hN hK hF hR hV hU hM hla hn hpl ht1 ht2 htB hnB hhalf hVl z1 z2
  simp (disch := omega) only [go_sem, h8, h9, h13]
  have hTI := QY (fr := upd fr 144 (.ref 0 (na + 1) 0 (na + 1))) (h := h) (nx := nx) (id := 0) (n := na + 1) (xs := us) (by rw [hm0]) (by rw [hm0, AF, hul]) (by rw [hm0]) (by omega) (by omega) (by rw [hm0, Ay, hul, List.take_of_length_le (by omega)])
  rw [htz, hL, hul] at hTI
  refine Ez hTI Cw (by simp [evA, AA]) (.inl rfl) ?_
  have hml : (natA .u32 us).length = na + 1 := by rw [AF, hul]
  simp (disch := omega) only [go_sem, h8, h9, h13, hm0, hml]
  obtain ⟨R3, hR3⟩ : ∃ R3 : Nat → St → Prop, R3 = fun i st => st.fr 8 = .int .i64 s ∧ st.fr 9 = .ref 0 (na + 1) 0 L ∧ st.fr 13 = .ref 2 M 0 M ∧ st.fr 147 = .int .i64 L ∧ st.fr 148 = .int .i64 i ∧ i ≤ L ∧
      st.h 0 = ⟨132, natA .u32 (((padL B32 L (a % b)).take i ++ (enc B32 (a % b * S)).drop i) ++ List.replicate (na + 1 - L) 0), true, true, true⟩ ∧ st.h 2 = ⟨132, natA .u32 qs, true, true, true⟩ := ⟨_, rfl⟩
  refine AM R3 (fun i => L - i) 0 (by rw [hR3]; exact ⟨(by simp [AA, h8] <;> omega), (by simp [AA] <;> omega), (by simp [AA, h13] <;> omega), (by simp [AA] <;> omega), (by simp [AA] <;> omega), by simp, by rw [List.take_zero, List.nil_append, List.drop_zero, ← hpad]; exact hm0, hm2⟩) ?_
  clear hTI h8 h9 h13 hm0 hm2 hml
  have hpl : (padL B32 L (a % b)).length = L := by
    refine Fq AJ ?_
    have h1 := Aw AJ (n := a % b * S)
    rw [hL] at h1
    have := Nat.mul_le_mul_left (a % b) hS0
    omega
  rintro i ⟨fr, h, nx⟩ hst J hJ
  rw [hR3] at hst
  obtain ⟨h8, h9, h13, h147, h148, hi, hm0, hm2⟩ := hst
  simp only at h8 h9 h13 h147 h148 hm0 hm2
  by_cases hin : i < L
  · obtain ⟨x, hx⟩ := AI (xs := enc B32 (a % b * S)) (i := i) (by omega)
    have hxB := Ad AJ _ x (List.mem_of_getElem? hx)
    obtain ⟨hg, hhg⟩ : ∃ hg, (enc B32 (a % b * S)).getD (i + 1) 0 = hg := ⟨_, rfl⟩
    have hgB : hg < B32 := hhg ▸ Dk AJ (Ad AJ _) _
    have hat := VP AJ hST hS0 hT0 (by rw [← hL]; exact Aw AJ) hx hin
    rw [hhg, Nat.mul_div_cancel _ hS0] at hat
    have hset := IT (R := enc B32 (a % b * S)) hat (by omega)
    have hbl : ((padL B32 L (a % b)).take i ++ (enc B32 (a % b * S)).drop i).length = L := by simp; omega
    have hall : (natA .u32 (((padL B32 L (a % b)).take i ++ (enc B32 (a % b * S)).drop i) ++ List.replicate (na + 1 - L) 0)).length = na + 1 := by rw [AF, List.length_append, hbl]; simp; omega
    have hti : ((padL B32 L (a % b)).take i).length = i := by simp; omega
    have hr1 : (((padL B32 L (a % b)).take i ++ (enc B32 (a % b * S)).drop i) ++ List.replicate (na + 1 - L) 0)[i]? = some x := by
      rw [List.getElem?_append_left (by omega), List.getElem?_append_right (by omega), hti, List.getElem?_drop, Nat.sub_self, Nat.add_zero]; exact hx
    have hr2 : i + 1 < L → (((padL B32 L (a % b)).take i ++ (enc B32 (a % b * S)).drop i) ++ List.replicate (na + 1 - L) 0)[i + 1]? = some hg := by
      intro h1
      rw [List.getElem?_append_left (by omega), List.getElem?_append_right (by omega), hti, List.getElem?_drop, show i + (i + 1 - i) = i + 1 by omega, ← hhg]; exact getD_some (by omega)
    have hws : ∀ v, (((padL B32 L (a % b)).take i ++ (enc B32 (a % b * S)).drop i) ++ List.replicate (na + 1 - L) 0).set i v = (((padL B32 L (a % b)).take i ++ (enc B32 (a % b * S)).drop i).set i v) ++ List.replicate (na + 1 - L) 0 := fun v => List.set_append_left _ _ (by omega)
    have hg0 : ¬ i + 1 < L → hg = 0 := fun h1 => hhg ▸ B4 (by omega)
    have key : ∀ st : St, st.fr 8 = .int .i64 s → st.fr 9 = .ref 0 (na + 1) 0 L → st.fr 13 = .ref 2 M 0 M → st.fr 147 = .int .i64 L → st.fr 148 = .int .i64 ((i + 1 : Nat) : Int) →
        st.h 0 = ⟨132, natA .u32 ((((padL B32 L (a % b)).take i ++ (enc B32 (a % b * S)).drop i).set i ((hg * 4294967296 + x) / S % 4294967296)) ++ List.replicate (na + 1 - L) 0), true, true, true⟩ → st.h 2 = ⟨132, natA .u32 qs, true, true, true⟩ → J st := by
      intro st r8 r9 r13 r147 r148 rh0 rh2
      rw [← hB, hset] at rh0
      exact hJ (i + 1) st (by rw [hR3]; exact ⟨r8, r9, r13, r147, r148, hin, rh0, rh2⟩) (by omega)
    generalize ((padL B32 L (a % b)).take i ++ (enc B32 (a % b * S)).drop i) ++ List.replicate (na + 1 - L) 0 = ds at *
    have hq64 : (hg * 4294967296 + x) / S < 18446744073709551616 := Nat.lt_of_le_of_lt (Nat.div_le_self _ _) (by omega)
    clear hJ hR3 hset hat hhg hpl hbl hti hx hpad hqt htz hL
    rw [hB] at hxB hgB
    have hs64 : s ≤ 64 := by omega
    obtain ⟨y, hy⟩ : ∃ y, (hg * 4294967296 + x) / S = y := ⟨_, rfl⟩
    rw [hy] at key hq64
    by_cases h1 : i + 1 < L
    · have hr2' := hr2 h1
      clear hr2 hg0
      simp (disch := omega) only [go_sem, h8, h9, h13, h147, h148, hm0, hall, hr1, hr2', hws, XO, hS, hy, BH, BJ]
      exact key _ (by simp [AA, h8] <;> omega) (by simp [AA, h9] <;> omega) (by simp [AA, h13] <;> omega) (by simp [AA, h147] <;> omega) (by simp [AA] <;> omega) (by simp [AA]) (by simp [AA, hm2])
    · have hg0' := hg0 h1
      subst hg0'
      simp only [Nat.zero_mul, Nat.zero_add] at hy
      clear hr2 hg0
      simp (disch := omega) only [go_sem, h8, h9, h13, h147, h148, hm0, hall, hr1, hws, XO, hS, hy, BH, BJ, Int.zero_mul, Int.zero_add]
      exact key _ (by simp [AA, h8] <;> omega) (by simp [AA, h9] <;> omega) (by simp [AA, h13] <;> omega) (by simp [AA, h147] <;> omega) (by simp [AA] <;> omega) (by simp [AA]) (by simp [AA, hm2])
  · obtain rfl : i = L := by omega
    rw [List.take_of_length_le (by omega), List.drop_eq_nil_of_le (by omega), List.append_nil] at hm0
    clear hJ hR3
    simp (disch := omega) only [go_sem, h8, h9, h13, h147, h148]
    refine DB (Ea (qs.take M) (by simp; omega)) Cw (by simp [evA, AA]) (B3 (id := 2) (st := ⟨_, _, _⟩) hm2 hqlen (Nat.le_refl _)) (by simp [hm2]) (by simp [AV.pure, AV.pureL]) (by simp [AV.pure, AV.pureL]) (by simp) ?_
    rw [hqt]
    simp (disch := omega) only [go_sem, h9]
    refine DB (Ea ((padL B32 i (a % b) ++ List.replicate (na + 1 - i) 0).take i) (by simp; omega)) Cw (by simp [evA, AA]) (B3 (id := 0) (n := na + 1) (st := ⟨_, _, _⟩) (by simp [DZ]; exact hm0) (by simp [hpl]; omega) (by omega)) (by simp [DZ, hm0]) (by simp [AV.pure, AV.pureL]) (by simp [AV.pure, AV.pureL]) (by simp) ?_
    have e9 : trimZ ((padL B32 i (a % b) ++ List.replicate (na + 1 - i) 0).take i) = enc B32 (a % b) := by
      rw [List.take_append_of_le_length (by omega), List.take_of_length_le (by omega), A1 AJ (GM AJ), Dh AJ]
    rw [e9]
    simp (disch := omega) only [go_sem]
    rw [← hQ]
    exact Ag (.inl rfl) rfl (by simp [AA, natI] <;> omega) (by simp [AA, natI] <;> omega) (by simp) (by simp)
theorem Jk : callable Tryz.prog 126 = true := by kernel_rfl
theorem Hk (x y : Nat) : Nat.gcd y (x % y) = Nat.gcd x y := by rw [Nat.gcd_comm, ← Nat.gcd_rec, Nat.gcd_comm]
theorem AX {B m n : Nat} (hB : 1 < B) (h : m ≤ n) : (enc B m).length ≤ (enc B n).length := Af hB (Nat.lt_of_le_of_lt h (Aw hB))
theorem A7 {B n : Nat} (hB : 1 < B) (h : n ≠ 0) : 0 < (enc B n).length := by
 rcases Nat.eq_zero_or_pos (enc B n).length with h' | h'
 ·exact absurd ((G7 hB).1 (List.length_eq_zero_iff.1 h')) h
 ·exact h'
theorem Qa (a b : Nat) (ha : (enc B32 a).length ≤ 1099511627775) (hb : (enc B32 b).length ≤ 1099511627775) : CallOk Tryz.prog 126 [natI a, natI b] (natI (Nat.gcd a b)) [] := by
 (refine AB (W := fun _ => false) false AS Tryz.func126 rfl zK zL (AC ?_); generalize hQ : Post Tryz.prog Tryz.f126 _ _ _ _ _ = Q; simp only [stIn, matL, matA, st00, natI])
 simp (disch := omega) only [go_sem]
 refine AM (fun (p : Nat × Nat) st => st.fr 0 = natI p.1 ∧ st.fr 1 = natI p.2 ∧ Nat.gcd p.1 p.2 = Nat.gcd a b ∧ (enc B32 p.1).length ≤ 1099511627775 ∧ (enc B32 p.2).length ≤ 1099511627775) (fun p => p.2) (a, b)
  ⟨(by simp [AA, natI] <;> omega), (by simp [AA, natI] <;> omega), rfl, ha, hb⟩ ?_
 rintro ⟨x, y⟩ ⟨fr, h, nx⟩ ⟨h0, h1, hg, hx, hy⟩ J hJ
 simp only [natI] at h0 h1 hg hx hy
 by_cases hy0 : y = 0
 ·subst hy0
  rw [Nat.gcd_zero_right] at hg
  rw [AZ] at h1
  simp (disch := omega) only [go_sem, h0, h1, List.length_nil]
  rw [← hQ]
  exact AG (.inl rfl) rfl (by simp [AA, h0, natI, hg] <;> omega) zS
 ·have hyl := A7 AJ hy0
  have hsx := NE x zO
  have hsy := NE y zO
  simp only [smallI] at hsx hsy
  have hgs := Hk x y
  have hK : (enc B32 (x % y)).length ≤ 1099511627775 := Nat.le_trans (AX AJ (Nat.le_of_lt (Nat.mod_lt _ zO))) hy
  have hdiv := Ui x y zO hy0 zO
  have hlt : x % y < y := Nat.mod_lt _ zO
  have go2 : ∀ st : St, st.fr 0 = natI y → st.fr 1 = natI (x % y) → J st := fun st r0 r1 => hJ (y, x % y) st ⟨r0, r1, by rw [← hg]; exact hgs, hy, hK⟩ hlt
  simp (disch := omega) only [go_sem, h0, h1]
  by_cases hxs : x < 18446744073709551616
  ·rw [if_pos hxs] at hsx
   refine AD (hsx) Dv (by simp [evA, AA, ofVal, ofCell, natI, h0]) zP zP ?_
   by_cases hys : y < 18446744073709551616
   ·rw [if_pos hys] at hsy
    simp (disch := omega) only [go_sem, h0, h1]
    refine AD (hsy) Dv (by simp [evA, AA, ofVal, ofCell, natI, h1]) zP zP ?_
    simp (disch := omega) only [go_sem]
    clear hJ go2 hdiv hsx hsy
    refine AM (fun (p : Nat × Nat) st => st.fr 5 = .int .u64 p.1 ∧ st.fr 7 = .int .u64 p.2 ∧ Nat.gcd p.1 p.2 = Nat.gcd a b ∧ p.1 < 18446744073709551616 ∧ p.2 < 18446744073709551616) (fun p => p.2) (x, y) ⟨zV, zV, hg, hxs, hys⟩ ?_
    clear h0 h1 hg hgs hK hx hy hlt hyl hy0 hxs hys
    rintro ⟨u, v⟩ ⟨fr, h, nx⟩ ⟨h5, h7, hg, hu, hv⟩ J2 hJ2
    simp only at h5 h7 hg hu hv
    rcases Nat.eq_zero_or_pos v with rfl | hv0
    ·simp (disch := omega) only [go_sem, h5, h7]
     refine AD (EJ u hu) Ao (by simp [evA, AA, ofVal, ofCell, h5]) zP zP ?_
     simp (disch := omega) only [go_sem]
     rw [Nat.gcd_zero_right] at hg
     rw [← hQ]
     exact AG (.inl rfl) rfl (by simp [AA, hg] <;> omega) zS
    ·have hm : u % v < v := Nat.mod_lt _ hv0
     have hne : ¬ (v : Int) = 0 := by omega
     simp (disch := omega) only [go_sem, h5, h7, hne]
     exact hJ2 (v, u % v) _ ⟨zV, zV, by rw [← hg]; exact Hk u v, hv, zT⟩ hm
   ·rw [if_neg hys] at hsy
    simp (disch := omega) only [go_sem, h0, h1]
    refine AD (hsy) Dv (by simp [evA, AA, ofVal, ofCell, natI, h1]) zP zP ?_
    simp (disch := omega) only [go_sem, h0, h1]
    refine AD (hdiv) ME (by simp [evA, AA, ofVal, ofCell, natI, h0, h1]) zP zP ?_
    simp (disch := omega) only [go_sem, h0, h1]
    exact go2 _ (by simp [AA, natI] <;> omega) zV
  ·rw [if_neg hxs] at hsx
   refine AD (hsx) Dv (by simp [evA, AA, ofVal, ofCell, natI, h0]) zP zP ?_
   simp (disch := omega) only [go_sem, h0, h1]
   by_cases hys : y < 18446744073709551616
   ·rw [if_pos hys] at hsy
    refine AD (hsy) Dv (by simp [evA, AA, ofVal, ofCell, natI, h1]) zP zP ?_
    simp (disch := omega) only [go_sem, h0, h1]
    refine AD (hdiv) ME (by simp [evA, AA, ofVal, ofCell, natI, h0, h1]) zP zP ?_
    simp (disch := omega) only [go_sem, h0, h1]
    exact go2 _ (by simp [AA, natI] <;> omega) zV
   ·rw [if_neg hys] at hsy
    refine AD (hsy) Dv (by simp [evA, AA, ofVal, ofCell, natI, h1]) zP zP ?_
    simp (disch := omega) only [go_sem, h0, h1]
    refine AD (hdiv) ME (by simp [evA, AA, ofVal, ofCell, natI, h0, h1]) zP zP ?_
    simp (disch := omega) only [go_sem, h0, h1]
    exact go2 _ (by simp [AA, natI] <;> omega) zV
attribute [simp] BD
theorem Qb : callable Tryz.prog 113 = true := by kernel_rfl
theorem Om {B t m : Nat} (hB : B % 2 = 0) (ht : 0 < t) (htB : t < B) (hm : m = B / (t + 1)) : B ≤ 2 * (t * m) ∧ (t + 1) * m ≤ B ∧ 0 < m := by
 have h1 := Nat.div_add_mod B (t + 1)
 have h2 := Nat.mod_lt B (show 0 < t + 1 by omega)
 rw [← hm] at h1
 obtain ⟨r, hr⟩ : ∃ r, B % (t + 1) = r := ⟨_, rfl⟩
 rw [hr] at h1 h2
 have hm0 : 0 < m := by rw [hm]; exact Nat.div_pos zO zO
 refine ⟨?_, zO, hm0⟩
 rw [Nat.add_mul, Nat.one_mul] at h1
 by_cases hm1 : m = 1
 ·subst hm1; omega
 ·by_cases ht1 : t = 1
  ·subst ht1; omega
  ·obtain ⟨x, rfl⟩ : ∃ x, t = x + 2 := ⟨t - 2, zO⟩
   obtain ⟨y, rfl⟩ : ∃ y, m = y + 2 := ⟨m - 2, zO⟩
   have : (x + 2) * (y + 2) = x * y + 2 * x + 2 * y + 4 := by rw [Nat.add_mul, Nat.mul_add, Nat.mul_add]; omega
   omega
theorem E4 : natS 0 = .sl 2 [] [] false := by simp [natS, AZ, natA]
theorem Da {k : IntKind} : natA k [] = [] := rfl
theorem CG {P : Program} {fn : Func} {n0 : Nat} {fl : Bool} {t u : Tmp} {id n len id2 n2 len2 T T2 : Nat} {r s : List AV} {st : St} {e : Ex} (he : e = .ret ∨ e = .normal) (hr : fn.results.toList = [.tmp t, .tmp u]) (hv : st.fr t = .ref id n 0 len) (hw : st.fr u = .ref id2 n2 0 len2)
  (hlv : (st.h id).lv = true) (hn : (st.h id).xs.length = n) (ht : (st.h id).t = T) (hl : len ≤ n) (hid : n0 ≤ id) (hxs : (st.h id).xs.take len = r) (hp : AV.pureL r = true)
  (hlv2 : (st.h id2).lv = true) (hn2 : (st.h id2).xs.length = n2) (ht2 : (st.h id2).t = T2) (hl2 : len2 ≤ n2) (hid2 : n0 ≤ id2) (hxs2 : (st.h id2).xs.take len2 = s) (hp2 : AV.pureL s = true) :
  Post P fn n0 fl false (.tup [.sl T r [] false, .sl T2 s [] false]) [] e st :=
 EX he hr hv hw (Av (d := 6) hlv hn ht zO (by rw [List.drop_zero]; exact hxs) hp) (Av (d := 6) hlv2 hn2 ht2 zO (by rw [List.drop_zero]; exact hxs2) hp2)
  (by intro a ha; simp at ha; rcases ha with rfl | rfl <;> assumption) (.inl rfl)
theorem InOk.re {P : Program} {fr : Nat → AV} {h h' : Nat → Blk} {nx nx' : Nat} {g : FuncId} {al : List AV} {x : AV} (hi : InOk P ⟨fr, h, nx⟩ g al x ⟨fr, h', nx'⟩) (fr2 : Nat → AV) : InOk P ⟨fr2, h, nx⟩ g al x ⟨fr2, h', nx'⟩ := ⟨rfl, hi.2⟩
theorem VQ {W Bn d V Y : Nat} (h : W < d * V) (hY : W + Bn - d * V = Y) (h0 : 0 < Bn := by exact Nat.pow_pos zD) : Y < Bn := by omega
theorem VR {W Bn d V Y r : Nat} (hle : d * V ≤ W + V) (hr : W + V - d * V = r) (h : W < d * V) (hV : V < Bn) (hY : W + Bn - d * V = Y) : Bn ≤ Y + V ∧ Y + V - Bn = r := by omega
set_option maxHeartbeats 2000000 in
theorem Kz (a b : Nat) (ha : (enc B9 a).length ≤ 1099511627775) (hb0 : b ≠ 0) (hb : (enc B9 b).length ≤ 1099511627775) : CallOk Tryz.prog 113 [natS a, natS b] (.tup [natS (a / b), natS (a % b)]) [] := by
 have hSa := NB AS a zO
 have hSb := NB AS b zO
 simp only [smallS] at hSa hSb
 have hB : B9 = 1000000000 := rfl
 have hbi : ¬ (b : Int) = 0 := by omega
 by_cases hsm : a < 1000000000000000000 ∧ b < 1000000000000000000
 ·obtain ⟨h1, h2⟩ := hsm
  rw [if_pos h1] at hSa
  rw [if_pos h2] at hSb
  have hq : a / b ≤ a := Nat.div_le_self _ _
  have hr : a % b < b := Nat.mod_lt _ zO
  obtain ⟨q, hq'⟩ : ∃ q, a / b = q := ⟨_, rfl⟩
  obtain ⟨r, hr'⟩ : ∃ r, a % b = r := ⟨_, rfl⟩
  rw [hq'] at hq
  rw [hr'] at hr
  rw [hq', hr']
  (refine AB (W := fun g => g == 110 || g == 130 || g == 131 || g == 132) false AS Tryz.func113 rfl zK zL (AC ?_); generalize hQ : Post Tryz.prog Tryz.f113 _ _ _ _ _ = Q; simp only [stIn, matL, matA, st00, natS])
  simp (disch := omega) only [go_sem]
  refine AD (hSa) Cv (by simp [evA, AA, ofVal, ofCell, natS]) zP zP ?_
  simp (disch := omega) only [go_sem]
  refine AD (hSb) Cv (by simp [evA, AA, ofVal, ofCell, natS]) zP zP ?_
  simp (disch := omega) only [go_sem, hbi, hq', hr']
  refine AD (NA AS q zO) QL zE zP zP ?_
  simp (disch := omega) only [go_sem, hbi, hq', hr']
  refine AD (NA AS r zO) QL zE zP zP ?_
  simp (disch := omega) only [go_sem]
  rw [← hQ]
  exact Ag (.inl rfl) rfl (by simp [AA, natS] <;> omega) (by simp [AA, natS] <;> omega) zS zS
 have cs_Cmp := EY
 by_cases hsa : a < 1000000000000000000
 ·have hab : a < b := by omega
  rw [if_pos hsa] at hSa
  rw [if_neg zO] at hSb
  have hcc := BS hab
  have e1 : a / b = 0 := Nat.div_eq_of_lt hab
  have e2 : a % b = a := Nat.mod_eq_of_lt hab
  rw [e1, e2]
  (refine AB (W := fun g => g == 110 || g == 130 || g == 131 || g == 132) false AS Tryz.func113 rfl zK zL (AC ?_); generalize hQ : Post Tryz.prog Tryz.f113 _ _ _ _ _ = Q; simp only [stIn, matL, matA, st00, natS])
  simp (disch := omega) only [go_sem]
  refine AD (hSa) Cv (by simp [evA, AA, ofVal, ofCell, natS]) zP zP ?_
  simp (disch := omega) only [go_sem]
  refine AD (hSb) Cv (by simp [evA, AA, ofVal, ofCell, natS]) zP zP ?_
  simp (disch := omega) only [go_sem]
  refine AD (FJ AS a b zO zO) cs_Cmp (by simp [evA, AA, ofVal, ofCell, natS]) zP zP ?_
  simp (disch := omega) only [go_sem, hcc]
  rcases Nat.eq_zero_or_pos (enc B9 a).length with h0 | h0
  ·have h00 := List.length_eq_zero_iff.1 h0
   simp (disch := omega) only [go_sem, h00, Da, reach]
   rw [← hQ, E4, natS, h00]
   exact CG (id := 0) (n := 0) (len := 0) (id2 := 1) (n2 := 0) (len2 := 0) (.inl rfl) rfl zV zV zU zU zU (Nat.le_refl _) (Nat.zero_le _) zU rfl zU zU zU (Nat.le_refl _) (Nat.zero_le _) (by simp [AA, Da]) rfl
  ·obtain ⟨na, hna⟩ : ∃ na, (enc B9 a).length = na := ⟨_, rfl⟩
   simp (disch := omega) only [go_sem, reach, hna, List.nil_append]
   rw [← hQ, E4, natS]
   exact CG (id := 0) (n := 0) (len := 0) (id2 := 1) (n2 := na) (len2 := na) (.inl rfl) rfl zV zV zU zU zU (Nat.le_refl _) (Nat.zero_le _) zU rfl zU (by simp [AA, AF, hna]) zU (Nat.le_refl _) (Nat.zero_le _) (by simp [AA, Ay]; rw [List.take_of_length_le zO]) (Ae _ _)
 rw [if_neg hsa] at hSa
 obtain ⟨y2, o2, hSb⟩ : ∃ (y2 : Nat) (o2 : Bool), CallOk Tryz.prog 128 [natS b] (.tup [.int .i64 y2, .bool o2]) [] := by
  by_cases h : b < 1000000000000000000
  ·rw [if_pos h] at hSb; exact ⟨b, true, hSb⟩
  ·rw [if_neg h] at hSb; exact ⟨0, false, hSb⟩
 by_cases hab : a < b
 ·have hcc := BS hab
  have e1 : a / b = 0 := Nat.div_eq_of_lt hab
  have e2 : a % b = a := Nat.mod_eq_of_lt hab
  rw [e1, e2]
  (refine AB (W := fun g => g == 110 || g == 130 || g == 131 || g == 132) false AS Tryz.func113 rfl zK zL (AC ?_); generalize hQ : Post Tryz.prog Tryz.f113 _ _ _ _ _ = Q; simp only [stIn, matL, matA, st00, natS])
  simp (disch := omega) only [go_sem]
  refine AD (hSa) Cv (by simp [evA, AA, ofVal, ofCell, natS]) zP zP ?_
  simp (disch := omega) only [go_sem]
  refine AD (hSb) Cv (by simp [evA, AA, ofVal, ofCell, natS]) zP zP ?_
  simp (disch := omega) only [go_sem]
  refine AD (FJ AS a b zO zO) cs_Cmp (by simp [evA, AA, ofVal, ofCell, natS]) zP zP ?_
  simp (disch := omega) only [go_sem, hcc]
  rcases Nat.eq_zero_or_pos (enc B9 a).length with h0 | h0
  ·have h00 := List.length_eq_zero_iff.1 h0
   simp (disch := omega) only [go_sem, h00, Da, reach]
   rw [← hQ, E4, natS, h00]
   exact CG (id := 0) (n := 0) (len := 0) (id2 := 1) (n2 := 0) (len2 := 0) (.inl rfl) rfl zV zV zU zU zU (Nat.le_refl _) (Nat.zero_le _) zU rfl zU zU zU (Nat.le_refl _) (Nat.zero_le _) (by simp [AA, Da]) rfl
  ·obtain ⟨na, hna⟩ : ∃ na, (enc B9 a).length = na := ⟨_, rfl⟩
   simp (disch := omega) only [go_sem, reach, hna, List.nil_append]
   rw [← hQ, E4, natS]
   exact CG (id := 0) (n := 0) (len := 0) (id2 := 1) (n2 := na) (len2 := na) (.inl rfl) rfl zV zV zU zU zU (Nat.le_refl _) (Nat.zero_le _) zU rfl zU (by simp [AA, AF, hna]) zU (Nat.le_refl _) (Nat.zero_le _) (by simp [AA, Ay]; rw [List.take_of_length_le zO]) (Ae _ _)
 by_cases hb1 : (enc B9 b).length = 1
 ·obtain ⟨d, hd⟩ := AI (xs := enc B9 b) (i := 0) zO
  have hdB := Ad AR b d (List.mem_of_getElem? hd)
  have hbd : b = d := by
   have h1 := Ak hd
   rw [List.drop_zero, List.drop_eq_nil_of_le zO] at h1
   have := Aa AR b
   rw [h1] at this; simpa [val] using this.symm
  have hd0 : 0 < d := by omega
  have hnc : ¬ cmpI a b < 0 := by simp only [cmpI]; rw [if_neg hab]; split <;> omega
  have hn0 : (enc B9 b)[Int.toNat 0]? = some d := hd
  rw [hB] at hdB
  obtain ⟨r, hr⟩ : ∃ r, a % d = r := ⟨_, rfl⟩
  have hrd : r < d := hr ▸ Nat.mod_lt _ hd0
  have hSD := Ha AS a d zO hd0 zO
  rw [hr] at hSD
  (refine AB (W := fun g => g == 110 || g == 130 || g == 131 || g == 132) false AS Tryz.func113 rfl zK zL (AC ?_); generalize hQ : Post Tryz.prog Tryz.f113 _ _ _ _ _ = Q; simp only [stIn, matL, matA, st00, natS])
  simp (disch := omega) only [go_sem]
  refine AD (hSa) Cv (by simp [evA, AA, ofVal, ofCell, natS]) zP zP ?_
  simp (disch := omega) only [go_sem]
  refine AD (hSb) Cv (by simp [evA, AA, ofVal, ofCell, natS]) zP zP ?_
  simp (disch := omega) only [go_sem]
  refine AD (FJ AS a b zO zO) cs_Cmp (by simp [evA, AA, ofVal, ofCell, natS]) zP zP ?_
  simp (disch := omega) only [go_sem, hb1, hn0]
  refine AD (hSD) Hb (by simp [evA, AA, ofVal, ofCell, natS]) zP zP ?_
  simp (disch := omega) only [go_sem]
  refine AD (NA AS r zO) QL (by simp [evA, AA, ofVal, ofCell, natS]) zP zP ?_
  simp (disch := omega) only [go_sem]
  rw [← hQ]
  exact Ag (.inl rfl) rfl (by simp [AA, natS, hbd] <;> omega) (by simp [AA, natS, hbd, hr] <;> omega) zS zS
 obtain ⟨n, hn⟩ : ∃ n, (enc B9 b).length = n + 2 := ⟨(enc B9 b).length - 2, by
  have : (enc B9 b).length ≠ 0 := fun h => hb0 ((G7 AR).1 (List.length_eq_zero_iff.1 h))
  omega⟩
 obtain ⟨na, hna⟩ : ∃ na, (enc B9 a).length = na := ⟨_, rfl⟩
 have hla : n + 2 ≤ na := by
  rw [← hn, ← hna]
  rcases Nat.lt_or_ge (enc B9 a).length (enc B9 b).length with h | h
  ·exact absurd (EG AR h) hab
  ·exact h
 obtain ⟨tp, htp⟩ := AI (xs := enc B9 b) (i := n + 1) zO
 have htpB : tp < 1000000000 := Ad AR b tp (List.mem_of_getElem? htp)
 have htp0 : tp ≠ 0 := Kk AR b tp (by rw [List.getLast?_eq_getElem?, hn]; exact htp)
 obtain ⟨m, hm⟩ : ∃ m, m = 1000000000 / (tp + 1) := ⟨_, rfl⟩
 obtain ⟨m1, m2, m3⟩ := Om zD zO htpB hm
 have hmB : m ≤ 1000000000 := by rw [hm]; exact Nat.div_le_self _ _
 have hN := QX AR hn htp (by rw [hB]; exact m2) (by rw [hB]; exact m1)
 obtain ⟨V, hV⟩ : ∃ V, b * m = V := ⟨_, rfl⟩
 obtain ⟨U, hU⟩ : ∃ U, a * m = U := ⟨_, rfl⟩
 obtain ⟨M, hM⟩ : ∃ M, M = na + 1 - (n + 2) := ⟨_, rfl⟩
 have hK := Kn.start (a := a) (M := M) hN hn m3 zO zO (by rw [hB]; exact hmB)
 rw [hV] at hN
 rw [hV, hU, hna] at hK
 have hpl : (padL B9 (na + 1) U).length = na + 1 := by rw [hK.len]; omega
 obtain ⟨f1, f2⟩ := Hj (a := a) (b := b) m3
 rw [hU, hV] at f1 f2
 have hVl := hN.len
 have hSMa := He AS a m zO m3 hmB
 have hSMb := He AS b m zO m3 hmB
 rw [hU] at hSMa
 rw [hV] at hSMb
 simp only [natS] at hSMa hSMb
 have hUl : (enc B9 U).length ≤ na + 1 := by
  have : (padL B9 (na + 1) U).length = (enc B9 U).length + (na + 1 - (enc B9 U).length) := by simp [padL]
  omega
 have hnc : ¬ cmpI a b < 0 := by simp only [cmpI]; rw [if_neg hab]; split <;> omega
 have e1 : ((n + 2 : Nat) : Int) - 1 = ((n + 1 : Nat) : Int) := by omega
 have w0 : (1000000000 : Int).tdiv ((tp + 1 : Nat) : Int) = (m : Int) := by rw [hm]; exact Iq 1000000000 (tp + 1)
 have hdr0 : (List.replicate (na + 1) 0).drop (enc B9 U).length = List.replicate (na + 1 - (enc B9 U).length) (0 : Nat) := List.drop_replicate
 (refine AB (W := fun g => g == 110 || g == 130 || g == 131 || g == 132) false AS Tryz.func113 rfl zK zL (AC ?_); generalize hQ : Post Tryz.prog Tryz.f113 _ _ _ _ _ = Q; simp only [stIn, matL, matA, st00, natS])
 simp (disch := omega) only [go_sem]
 refine AD (hSa) Cv (by simp [evA, AA, ofVal, ofCell, natS]) zP zP ?_
 simp (disch := omega) only [go_sem]
 refine AD (hSb) Cv (by simp [evA, AA, ofVal, ofCell, natS]) zP zP ?_
 simp (disch := omega) only [go_sem]
 refine AD (FJ AS a b zO zO) cs_Cmp (by simp [evA, AA, ofVal, ofCell, natS]) zP zP ?_
 simp (disch := omega) only [go_sem, hb1, hn, hna, e1, htp, w0, reach]
 refine AD (hSMa) Hc (by simp [evA, AA, ofVal, ofCell, natS]) zP zP ?_
 have hpd : enc B9 U ++ List.replicate (na + 1 - (enc B9 U).length) 0 = padL B9 (na + 1) U := rfl
 simp (disch := omega) only [go_sem, copyA, AF, Ip, hdr0, List.take_zero, List.nil_append, List.length_replicate, List.length_append, Bu, hpd, hpl]
 refine AD (hSMb) Hc (by simp [evA, AA, ofVal, ofCell, natS]) zP zP ?_
 have e3 : ((na + 1 : Nat) : Int) - ((n + 2 : Nat) : Int) = (M : Int) := by omega
 obtain ⟨top, next, ht1, ht2⟩ : ∃ top next, (enc B9 V)[n + 1]? = some top ∧ (enc B9 V)[n]? = some next := by
  obtain ⟨x, hx⟩ := AI (xs := enc B9 V) (i := n + 1) zO
  obtain ⟨y, hy⟩ := AI (xs := enc B9 V) (i := n) zO
  exact ⟨x, y, hx, hy⟩
 have htB : top < B9 := Ad AR V _ (List.mem_of_getElem? ht1)
 have hnB : next < B9 := Ad AR V _ (List.mem_of_getElem? ht2)
 have hhalf := hN.half _ ht1
 have e2 : ((n + 2 : Nat) : Int) - 2 = (n : Int) := by omega
 rw [hB] at htB hnB hhalf
 simp (disch := omega) only [go_sem, ↓BX, hVl, hpl, e3, reach, AF, List.length_replicate]; try unfold goB
 obtain ⟨R, hR⟩ : ∃ R : Nat × List Nat × List Nat → St → Prop, R = fun p st => st.fr 12 = .int .i64 m ∧ st.fr 13 = .ref 0 (na + 1) 0 (na + 1) ∧ st.fr 14 = natS V ∧ st.fr 15 = .int .i64 ((n + 2 : Nat) : Int) ∧ st.fr 16 = .ref 1 M 0 M ∧ st.fr 17 = .int .i64 ((p.1 : Int) - 1) ∧
   st.h 0 = ⟨2, natA .i64 p.2.1, true, true, true⟩ ∧ st.h 1 = ⟨2, natA .i64 (List.replicate p.1 0 ++ p.2.2), true, true, true⟩ ∧ Kn B9 V U M n p.1 p.2.1 p.2.2 := ⟨_, rfl⟩
 obtain ⟨F, hF⟩ : ∃ F : St → Prop, F = fun st => st.fr 12 = .int .i64 m ∧ st.fr 13 = .ref 0 (na + 1) 0 (na + 1) ∧ st.fr 16 = .ref 1 M 0 M ∧ ∃ us qs, st.h 0 = ⟨2, natA .i64 us, true, true, true⟩ ∧ st.h 1 = ⟨2, natA .i64 qs, true, true, true⟩ ∧ Kn B9 V U M n 0 us qs := ⟨_, rfl⟩
 have hMn : M + (n + 2) = na + 1 := by omega
 have hnab : na ≤ 1099511627775 := by omega
 refine Do F ?_ ?_
 ·simp (disch := omega) only [go_sem]
  clear hb0 hab hb1 hb ha e1 e3 m1 m2 f1 f2 htp0 htpB htp hQ hSa hSb hSMa hSMb hsa hbi hsm w0 hnc hmB
  refine AM R (fun p => p.1) (M, padL B9 (na + 1) U, []) (by rw [hR]; exact ⟨zV, zV, (by simp [AA, natS] <;> omega), zV, zV, zV, zU, zU, hK⟩) ?_
  clear hK hn hna hla hM hpl hV hU hUl hdr0 hpd hm m3
  rintro ⟨i, us, qs⟩ ⟨fr, h, nx⟩ hst J hJ
  rw [hR] at hst
  obtain ⟨h12, h13, h14, h15, h16, h17, hm0, hm2, hK⟩ := hst
  simp only [natS] at h12 h13 h14 h15 h16 h17 hm0 hm2 hK
  have hul : us.length = na + 1 := by rw [hK.len]; omega
  rcases Nat.eq_zero_or_pos i with rfl | hp
  ·simp (disch := omega) only [go_sem, h12, h13, h14, h15, h16, h17]
   rw [hF]
   exact ⟨(by simp [AA, h12] <;> omega), (by simp [AA, h13] <;> omega), (by simp [AA, h16] <;> omega), us, qs, hm0, by simpa using hm2, hK⟩
  ·obtain ⟨j, rfl⟩ : ∃ j, i = j + 1 := ⟨i - 1, zO⟩
   have hjM := hK.iM
   obtain ⟨top', next', u1, u2, u3, g1, g2, g3, g4, g5, c1, c2, c3, c4, c5, hD⟩ := hK.digs hN
   obtain rfl : top' = top := by rw [ht1] at g1; exact (Option.some.inj g1).symm
   obtain rfl : next' = next := by rw [ht2] at g2; exact (Option.some.inj g2).symm
   obtain ⟨W, hW⟩ : ∃ W, val B9 ((us.drop j).take (n + 3)) = W := ⟨_, rfl⟩
   rw [hW] at hD
   obtain ⟨x, hx⟩ : ∃ x, u1 * 1000000000 + u2 = x := ⟨_, rfl⟩
   have hx' : u1 * B9 + u2 = x := by rw [hB]; exact hx
   rw [hx'] at hD
   rw [hB] at c3 c4 c5
   have htop0 : ¬ (top' : Int) = 0 := by omega
   have e4 : ((j + (n + 2) : Nat) : Int) - 1 = ((j + (n + 1) : Nat) : Int) := by omega
   have e5 : ((j + (n + 2) : Nat) : Int) - 2 = ((j + n : Nat) : Int) := by omega
   have e6 : ((j + 1 : Nat) : Int) - 1 = (j : Int) := by omega
   have e1 : ((n + 2 : Nat) : Int) - 1 = ((n + 1 : Nat) : Int) := by omega
   rw [e6] at h17
   have hul2 : (natA .i64 us).length = na + 1 := by rw [AF, hul]
   obtain ⟨d0, hd0⟩ : ∃ d0, x / top' = d0 := ⟨_, rfl⟩
   obtain ⟨r0, hr0⟩ : ∃ r0, x % top' = r0 := ⟨_, rfl⟩
   have hst0 := hD.start
   have hst1 := hD.first
   have hst2 : d0 * top' + r0 = x := by rw [← hd0, ← hr0, Nat.mul_comm]; exact Nat.div_add_mod x top'
   have hst3 : r0 < top' := hr0 ▸ Nat.mod_lt _ zO
   rw [hd0] at hst0 hst1
   simp (disch := omega) only [go_sem, ↓BX, h12, h13, h14, h15, h16, h17]; try unfold goB
   rw [Dg]
   have hx2 : x < 1000000000000000000 := by omega
   have hd0b : d0 ≤ 1000000001 := by rw [hB] at hst1; exact hst1
   simp (disch := omega) only [go_sem, ↓BX, h12, h13, h14, h15, h16, h17, hVl, AF, e1, e4, e5, hm0, hul, g3, g4, ht1, ht2, hx, htop0, hd0, hr0]; try unfold goB
   obtain ⟨G, hG⟩ : ∃ G : St → Prop, G = fun st => st.fr 12 = .int .i64 m ∧ st.fr 13 = .ref 0 (na + 1) 0 (na + 1) ∧ st.fr 14 = natS V ∧ st.fr 15 = .int .i64 ((n + 2 : Nat) : Int) ∧ st.fr 16 = .ref 1 M 0 M ∧ st.fr 17 = .int .i64 j ∧
     st.h 0 = ⟨2, natA .i64 us, true, true, true⟩ ∧ st.h 1 = ⟨2, natA .i64 (List.replicate (j + 1) 0 ++ qs), true, true, true⟩ ∧ ∃ d, st.fr 19 = .int .i64 d ∧ Est B9 V W d := ⟨_, rfl⟩
   refine Do G ?_ ?_
   ·simp (disch := omega) only [go_sem]
    clear hJ hR hF
    obtain ⟨R2, hR2⟩ : ∃ R2 : Nat × Nat → St → Prop, R2 = fun p st => st.fr 12 = .int .i64 m ∧ st.fr 13 = .ref 0 (na + 1) 0 (na + 1) ∧ st.fr 14 = natS V ∧ st.fr 15 = .int .i64 ((n + 2 : Nat) : Int) ∧ st.fr 16 = .ref 1 M 0 M ∧ st.fr 17 = .int .i64 j ∧
     st.h 0 = ⟨2, natA .i64 us, true, true, true⟩ ∧ st.h 1 = ⟨2, natA .i64 (List.replicate (j + 1) 0 ++ qs), true, true, true⟩ ∧ st.fr 19 = .int .i64 p.1 ∧ st.fr 20 = .int .i64 p.2 ∧ p.1 * top' + p.2 = x ∧ W < (p.1 + 1) * V ∧ p.1 ≤ 1000000001 ∧ p.2 < 1000000000 := ⟨_, rfl⟩
    refine AM R2 (fun p => p.1) (d0, r0) (by rw [hR2]; exact ⟨(by simp [AA, h12] <;> omega), (by simp [AA, h13] <;> omega), (by simp [AA, h14, natS] <;> omega), (by simp [AA, h15] <;> omega), (by simp [AA, h16] <;> omega), (by simp [AA, h17] <;> omega), hm0, hm2, zV, zV, hst2, hst0, hd0b, zT⟩) ?_
    clear h12 h13 h14 h15 h16 h17 hm0 hm2 hst0 hst1 hst2 hst3 hd0 hr0 hd0b
    rintro ⟨d, r⟩ ⟨fr, h, nx⟩ hst J2 hJ2
    rw [hR2] at hst
    obtain ⟨h12, h13, h14, h15, h16, h17, hm0, hm2, h19, h20, q1, q2, q3, q4⟩ := hst
    simp only [natS] at h12 h13 h14 h15 h16 h17 hm0 hm2 h19 h20 q1 q2 q3 q4
    have key : 1000000000 ≤ d ∨ r * 1000000000 + u3 < d * next' → 0 < d ∧ ((d : Int) - 1 = ((d - 1 : Nat) : Int)) ∧ (∀ st : St, st.fr 12 = .int .i64 m → st.fr 13 = .ref 0 (na + 1) 0 (na + 1) → st.fr 14 = natS V → st.fr 15 = .int .i64 ((n + 2 : Nat) : Int) → st.fr 16 = .ref 1 M 0 M → st.fr 17 = .int .i64 j →
      st.h = h → st.fr 19 = .int .i64 ((d - 1 : Nat) : Int) → st.fr 20 = .int .i64 ((r + top' : Nat) : Int) → r + top' < 1000000000 → J2 st) ∧ (1000000000 ≤ r + top' → Est B9 V W (d - 1)) := by
     intro hc
     rw [← hB] at hc
     obtain ⟨p1, p2, p3⟩ := hD.less q1 hc
     refine ⟨p1, zO, fun st r12 r13 r14 r15 r16 r17 rh r19 r20 hr => hJ2 (d - 1, r + top') st ?_ zT, fun hr => ?_⟩
     ·rw [hR2]; exact ⟨r12, r13, r14, r15, r16, r17, by rw [rh]; exact hm0, by rw [rh]; exact hm2, r19, r20, p3, p2, zT, hr⟩
     ·refine hD.early p3 p2 ?_ (by rw [hB]; exact hr)
      rcases Nat.lt_or_ge B9 d with h' | h'
      ·have := hD.small q1 h'; rw [hB] at this; omega
      ·omega
    have fin : d < 1000000000 → d * next' ≤ r * 1000000000 + u3 → Est B9 V W d := fun a b => hD.done q1 q2 (by rw [hB]; exact a) (by rw [hB]; exact b)
    clear hJ2 hR2 q1 q2 hD hN hK
    obtain ⟨z, hz⟩ : ∃ z, d * next' = z := ⟨_, rfl⟩
    rw [hz] at key fin
    by_cases hdB : 1000000000 ≤ d
    ·obtain ⟨p1, p2, p3, p4⟩ := key (.inl hdB)
     by_cases hr : 1000000000 ≤ r + top'
     ·simp (disch := omega) only [go_sem, h12, h13, h14, h15, h16, h17, h19, h20, p2, e1, hVl, AF, ht1]
      rw [hG]; exact ⟨(by simp [AA, h12] <;> omega), (by simp [AA, h13] <;> omega), (by simp [AA, h14, natS] <;> omega), (by simp [AA, h15] <;> omega), (by simp [AA, h16] <;> omega), (by simp [AA, h17] <;> omega), hm0, hm2, d - 1, zV, p4 hr⟩
     ·simp (disch := omega) only [go_sem, h12, h13, h14, h15, h16, h17, h19, h20, p2, e1, hVl, AF, ht1]
      exact p3 _ (by simp [AA, h12] <;> omega) (by simp [AA, h13] <;> omega) (by simp [AA, h14, natS] <;> omega) (by simp [AA, h15] <;> omega) (by simp [AA, h16] <;> omega) (by simp [AA, h17] <;> omega) rfl zV zV zO
    ·have hzb : z ≤ 999999999 * 999999999 := by rw [← hz]; exact Nat.mul_le_mul zO zO
     by_cases hcc : r * 1000000000 + u3 < z
     ·obtain ⟨p1, p2, p3, p4⟩ := key (.inr hcc)
      by_cases hr : 1000000000 ≤ r + top'
      ·simp (disch := omega) only [go_sem, h12, h13, h14, h15, h16, h17, h19, h20, p2, e1, e2, e5, hVl, AF, ht1, ht2, hm0, hul, g5, hz]
       rw [hG]; exact ⟨(by simp [AA, h12] <;> omega), (by simp [AA, h13] <;> omega), (by simp [AA, h14, natS] <;> omega), (by simp [AA, h15] <;> omega), (by simp [AA, h16] <;> omega), (by simp [AA, h17] <;> omega), hm0, hm2, d - 1, zV, p4 hr⟩
      ·simp (disch := omega) only [go_sem, h12, h13, h14, h15, h16, h17, h19, h20, p2, e1, e2, e5, hVl, AF, ht1, ht2, hm0, hul, g5, hz]
       exact p3 _ (by simp [AA, h12] <;> omega) (by simp [AA, h13] <;> omega) (by simp [AA, h14, natS] <;> omega) (by simp [AA, h15] <;> omega) (by simp [AA, h16] <;> omega) (by simp [AA, h17] <;> omega) rfl zV zV zO
     ·simp (disch := omega) only [go_sem, h12, h13, h14, h15, h16, h17, h19, h20, e1, e2, e5, hVl, AF, ht1, ht2, hm0, hul, g5, hz]
      rw [hG]; exact ⟨(by simp [AA, h12] <;> omega), (by simp [AA, h13] <;> omega), (by simp [AA, h14, natS] <;> omega), (by simp [AA, h15] <;> omega), (by simp [AA, h16] <;> omega), (by simp [AA, h17] <;> omega), hm0, hm2, d, (by simp [AA, h19] <;> omega), fin zO zO⟩
   clear h12 h13 h14 h15 h16 h17 hm0 hm2 hst0 hst1 hst2 hst3 hd0 hr0 hd0b
   rintro ⟨fr, h, nx⟩ hst
   rw [hG] at hst
   obtain ⟨h12, h13, h14, h15, h16, h17, hm0, hm2, d, h19, hE⟩ := hst
   simp only [natS] at h12 h13 h14 h15 h16 h17 hm0 hm2 h19
   obtain ⟨w1, w2, w3, w4, w5⟩ := hK.win hN
   have hlj : (us.take j).length = j := by simp; omega
   have hdlt := hE.lt
   have hdlow := hE.low
   have hV0 := hN.pos
   have hdB2 : d < 1000000000 := by rw [← hB]; exact hdlt
   have hdm := Nat.div_add_mod' W V
   have e7 : (List.replicate (j + 1) 0 ++ qs).length = M := by have := hK.qlen; simp; omega
   have e8 : (List.replicate (j + 1) 0 ++ qs)[j]? = some 0 := by rw [List.getElem?_append_left zS, List.getElem?_replicate, if_pos zO]
   have hTO := Oj (fr := fr) (h := h) (nx := nx) (id := 0) (n := n) (m := na + 1) (pre := us.take j) (ws := (us.drop j).take (n + 3)) (post := us.drop (j + (n + 3))) V d (by rw [← Hi]; exact hm0) (by rw [← Hi]; exact hul) w2 hVl w1 zO hdlt (by rw [hW]; exact hdlow)
   rw [hW, hlj] at hTO
   by_cases hover : W < d * V
   ·obtain ⟨p1, p2, p3, p4⟩ := hE.over hV0 hover
    have hr : W + V - d * V = W % V := by rw [p3, p2]; omega
    have hK' := hK.step hN (q := d - 1) (r := W % V) (by rw [hW]; exact p2) (by rw [hW])
    have hd1 : (d : Int) - 1 = ((d - 1 : Nat) : Int) := by omega
    have hdec : decide (W < d * V) = true := by simpa using hover
    rw [hdec, offA, if_pos hover] at hTO
    obtain ⟨Y, hY⟩ : ∃ Y, W + B9 ^ (n + 2) - d * V = Y := ⟨_, rfl⟩
    rw [hY] at hTO
    have hYlt : Y < B9 ^ (n + 2) := VQ hover hY
    have hYge : B9 ^ (n + 2) ≤ Y + V ∧ Y + V - B9 ^ (n + 2) = W % V := VR hdlow hr hover hN.lt hY
    have hPB := Ol (ex := true) (gr := true) (fr := fun _ => .undef) (h := upd h 0 ⟨2, natA .i64 (us.take j) ++ (natA .i64 (padL B9 (n + 2) Y) ++ [.int .i64 (-1)]) ++ natA .i64 (us.drop (j + (n + 3))), true, true, true⟩) (nx := nx) (id := 0) (n := n) (m := na + 1) (pre := us.take j) (ws := padL B9 (n + 2) Y) (post := us.drop (j + (n + 3))) V
     zU zW (GM AR) hVl (Fq AR hYlt) zO (by rw [Dh AR]; exact hYge.1)
    rw [Dh AR, hYge.2, hlj] at hPB
    have hupd : ∀ z w : Blk, upd (upd h 0 z) 0 w = upd h 0 w := by intro z w; funext j; simp only [AA]; split <;> rfl
    rw [hupd] at hPB
    have key : ∀ st : St, st.fr 12 = .int .i64 m → st.fr 13 = .ref 0 (na + 1) 0 (na + 1) → st.fr 14 = natS V → st.fr 15 = .int .i64 ((n + 2 : Nat) : Int) → st.fr 16 = .ref 1 M 0 M → st.fr 17 = .int .i64 ((j : Int) - 1) →
      st.h 0 = ⟨2, natA .i64 (us.take j ++ padL B9 (n + 3) (W % V) ++ us.drop (j + (n + 3))), true, true, true⟩ → st.h 1 = ⟨2, natA .i64 (List.replicate j 0 ++ (d - 1) :: qs), true, true, true⟩ → J st :=
      fun st r12 r13 r14 r15 r16 r17 rh0 rh2 => hJ (j, us.take j ++ padL B9 (n + 3) (W % V) ++ us.drop (j + (n + 3)), (d - 1) :: qs) st (by rw [hR]; exact ⟨r12, r13, r14, r15, r16, r17, rh0, rh2, hK'⟩) zT
    clear hJ hover hdm p2 p3 p4 hE hdlow hdlt hR hF hD hK hK' w1 w2 w3 w4 w5 hYlt hYge hr hY
    simp (disch := omega) only [go_sem, h12, h13, h14, h15, h16, h17, h19]
    refine Ez (hTO.re _) Iw (by simp [evA, AA, natS]) (.inl rfl) ?_
    simp (disch := omega) only [go_sem, h12, h13, h14, h15, h16, h17, h19, hd1]
    refine Ez (hPB.re _) Oi (by simp [evA, AA, natS, h13, h14, h17]) (.inl rfl) ?_
    simp (disch := omega) only [go_sem, h12, h13, h14, h15, h16, h17, h19, hm2, e7, e8]
    exact key _ (by simp [AA, h12] <;> omega) (by simp [AA, h13] <;> omega) (by simp [AA, h14, natS] <;> omega) (by simp [AA, h15] <;> omega) (by simp [AA, h16] <;> omega) zV zU (by simp only [AA, ↓reduceIte, Bl])
   ·have hq := hE.right hV0 zO
    have hr : W - d * V = W % V := by rw [hq]; omega
    have hK' := hK.step hN (q := d) (r := W % V) (by rw [hW]; exact hq) (by rw [hW])
    have hdec : decide (W < d * V) = false := by simpa using hover
    rw [hdec, offA, if_neg hover, hr, Bu, Bu] at hTO
    have key : ∀ st : St, st.fr 12 = .int .i64 m → st.fr 13 = .ref 0 (na + 1) 0 (na + 1) → st.fr 14 = natS V → st.fr 15 = .int .i64 ((n + 2 : Nat) : Int) → st.fr 16 = .ref 1 M 0 M → st.fr 17 = .int .i64 ((j : Int) - 1) →
      st.h 0 = ⟨2, natA .i64 (us.take j ++ padL B9 (n + 3) (W % V) ++ us.drop (j + (n + 3))), true, true, true⟩ → st.h 1 = ⟨2, natA .i64 (List.replicate j 0 ++ d :: qs), true, true, true⟩ → J st :=
      fun st r12 r13 r14 r15 r16 r17 rh0 rh2 => hJ (j, us.take j ++ padL B9 (n + 3) (W % V) ++ us.drop (j + (n + 3)), d :: qs) st (by rw [hR]; exact ⟨r12, r13, r14, r15, r16, r17, rh0, rh2, hK'⟩) zT
    clear hJ hover hdm hq hE hdlow hdlt hR hF hD hK hK' w1 w2 w3 w4 w5 hr
    simp (disch := omega) only [go_sem, h12, h13, h14, h15, h16, h17, h19]
    refine Ez (hTO.re _) Iw (by simp [evA, AA, natS]) (.inl rfl) ?_
    simp (disch := omega) only [go_sem, h12, h13, h14, h15, h16, h17, h19, hm2, e7, e8]
    exact key _ (by simp [AA, h12] <;> omega) (by simp [AA, h13] <;> omega) (by simp [AA, h14, natS] <;> omega) (by simp [AA, h15] <;> omega) (by simp [AA, h16] <;> omega) zV zU (by simp only [AA, ↓reduceIte, Bl])
 rintro ⟨fr, h, nx⟩ hst
 rw [hF] at hst
 obtain ⟨h12, h13, h16, us, qs, hm0, hm2, hK⟩ := hst
 simp only at h12 h13 h16 hm0 hm2
 obtain ⟨z1, z2⟩ := hK.done hN
 have hul : us.length = na + 1 := by rw [hK.len, hMn]
 have hqlen : qs.length = M := by have := hK.qlen; omega
 have husd := hK.lt
 have hqd := hK.qlt
 rw [f1] at z1
 rw [f2] at z2
 have htz : trimZ (us.take (na + 1)) = enc B9 (a % b * m) := by rw [List.take_of_length_le zO, A1 AR husd, z2]
 have hqt : trimZ (qs.take M) = enc B9 (a / b) := by rw [List.take_of_length_le zO, A1 AR hqd, z1]
 have hrl : (enc B9 (a % b * m)).length ≤ na + 1 := by
  rw [← z2]
  exact Af AR (by rw [← hul]; exact A9 husd)
 have hSD := Ha AS (a % b * m) m zO m3 hmB
 rw [Nat.mul_div_cancel _ m3] at hSD
 simp (disch := omega) only [go_sem, h12, h13, h16]
 refine DB (HX AS (us.take (na + 1)) zW) GK (by simp [evA, AA]) (B3 (id := 0) (st := ⟨_, _, _⟩) hm0 hul (Nat.le_refl _)) (by simp [hm0]) zP zP zS ?_
 rw [htz]
 simp (disch := omega) only [go_sem, h12, h13, h16]
 refine AD (hSD) Hb (by simp [evA, AA, ofVal, ofCell, natS]) zP zP ?_
 simp (disch := omega) only [go_sem, h16]
 refine DB (HX AS (qs.take M) zW) GK (by simp [evA, AA]) (B3 (id := 1) (st := ⟨_, _, _⟩) (by simp [DZ]; exact hm2) hqlen (Nat.le_refl _)) (by simp [DZ, hm2]) zP zP zS ?_
 rw [hqt]
 simp (disch := omega) only [go_sem]
 rw [← hQ]
 exact Ag (.inl rfl) rfl (by simp [AA, natS] <;> omega) (by simp [AA, natS] <;> omega) zS zS
section
open Go Go.RowKit
theorem EO {P : Program} {f : FuncId} {args : List AV} {vals : List Value} {r : AV} {v : Value} (ha : ∀ E vs L, ownRL P E args vs L → vs = vals ∧ L = []) (hr : ∀ E, ownR P E r v [])
  (h : ∀ w : World, Calls P f vals.toArray w fun e w' => e = .returned v ∧ Below w.heap.size w w') : CallOk P f args r [] := by
 intro w I vs L hI hown hnd
 obtain ⟨rfl, rfl⟩ := ha _ _ _ hown
 refine (h w).mono ?_
 rintro e w' ⟨rfl, hb⟩
 refine ⟨v, I, [], rfl, ⟨hb.os, hb.tape, hb.output, hb.size, fun b hb' _ => hb.block b hb', zS⟩, fun b hb' => hb', fun b hb' => .inl hb', fun b hb' => Nat.lt_of_lt_of_le (hI.lt b hb') hb.size, hr _, zS, zS, .inl rfl⟩
theorem NF {P : Program} {E : Env} {s : List UInt8} {v : Value} {L : List OLoc} (h : ownR P E (.str s) v L) : v = .string ⟨s.toArray⟩ ∧ L = [] := by simp only [ownR, rep] at h; exact ⟨h.2, h.1⟩
theorem Jl {P : Program} {E : Env} {k : IntKind} {n : Int} {v : Value} {L : List OLoc} (h : ownR P E (.int k n) v L) : v = .int k n ∧ L = [] := by simp only [ownR, rep] at h; exact ⟨h.2, h.1⟩
theorem Dw {P : Program} {E : Env} {x : AV} {xs : List AV} {v : Value} {us : List Value} (hx : ∀ u L, ownR P E x u L → u = v ∧ L = []) (hxs : ∀ vs L, ownRL P E xs vs L → vs = us ∧ L = []) : ∀ vs L, ownRL P E (x :: xs) vs L → vs = v :: us ∧ L = [] := by
 intro vs L h
 simp only [ownRL] at h
 obtain ⟨u, us', L1, L2, rfl, rfl, h1, h2⟩ := h
 obtain ⟨rfl, rfl⟩ := hx _ _ h1
 obtain ⟨rfl, rfl⟩ := hxs _ _ h2
 exact ⟨rfl, rfl⟩
theorem K0 {P : Program} {E : Env} : ∀ vs L, ownRL P E [] vs L → vs = [] ∧ L = [] := by intro vs L h; simpa [ownRL] using h
def findB (m : UInt8) : List UInt8 → Option Nat
 | [] => none
 | c :: cs => if c = m then some 0 else (findB m cs).map (· + 1)
def findI (m : UInt8) (s : List UInt8) : Int := match findB m s with | some i => i | none => -1
theorem Qc (m : UInt8) (s : List UInt8) : Lib.indexByte s m = findI m s := by
 induction s with
 | nil => rfl
 | cons c cs ih =>
  unfold Lib.indexByte
  rw [ih]
  unfold findI
  by_cases h : c = m
  ·simp [h, findB]
  ·rw [show (c == m) = false by simpa using h]
   simp only [findB, if_neg h, Bool.false_eq_true, if_false]
   cases findB m cs with
   | none => simp
   | some i => simp <;> omega
theorem Hl {m : UInt8} {s : List UInt8} {i : Nat} (h : findB m s = some i) : i < s.length ∧ s[i]? = some m ∧ m ∉ s.take i := by
 induction s generalizing i with
 | nil => simp [findB] at h
 | cons c cs ih =>
  simp only [findB] at h
  by_cases hc : c = m
  ·rw [if_pos hc] at h; cases h; simp [hc]
  ·rw [if_neg hc] at h
   obtain ⟨j, hj, rfl⟩ := Option.map_eq_some_iff.1 h
   obtain ⟨a, b, c'⟩ := ih hj
   exact ⟨by simp only [List.length_cons]; omega, by simpa using b, by simp only [List.take_succ_cons, List.mem_cons, not_or]; exact ⟨fun e => hc e.symm, c'⟩⟩
theorem MF {m : UInt8} {s : List UInt8} (h : findB m s = none) : m ∉ s := by
 induction s with
 | nil => simp
 | cons c cs ih =>
  simp only [findB] at h
  by_cases hc : c = m
  ·rw [if_pos hc] at h; cases h
  ·rw [if_neg hc] at h
   simp at h
   simp [ih h]; exact fun e => hc e.symm
set_option maxHeartbeats 1000000 in
set_option maxRecDepth 100000 in
theorem K1 (s : ByteArray) (c : Int) (w : World) : Calls Tryz.prog 168 #[.string s, .int .u8 c] w fun e w' => e = .returned (.int .i64 (Lib.indexByte s.data.toList c.toNat.toUInt8)) ∧ w' = w := by
 go_enter Tryz.func168, Tryz.ntmps168
 go_wp2
 rw [run_callFunc_extern Tryz.func180 zK zK zK (e := Extern.BytealgIndexByte.indexByte) zK, Lib.run_indexByteString]
 simp only [Result.andThen]
 rw [Oper.upon_value]
 go_wp2
 go_ret
 exact ⟨rfl, rfl⟩
theorem K2 : callable Tryz.prog 168 = true := by kernel_rfl
theorem K3 (s : List UInt8) (m : UInt8) : CallOk Tryz.prog 168 [.str s, .int .u8 m.toNat] (.int .i64 (findI m s)) [] := by
 refine EO (vals := [.string ⟨s.toArray⟩, .int .u8 m.toNat]) (v := .int .i64 (findI m s)) (fun E => Dw (fun _ _ => NF) (Dw (fun _ _ => Jl) K0)) (fun E => by simp [ownR, rep]) fun w => ?_
 refine (K1 ⟨s.toArray⟩ m.toNat w).mono ?_
 rintro e w' ⟨rfl, rfl⟩
 refine ⟨?_, Below.refl _ _⟩
 simp [Qc]
theorem K4 : callable Tryz.prog 154 = true := by kernel_rfl
theorem Jm : callable Tryz.prog 142 = true := by kernel_rfl
theorem A8 : callable Tryz.prog 124 = true := by kernel_rfl
theorem S5 : callable Tryz.prog 157 = true := by kernel_rfl
theorem VS : callable Tryz.prog 141 = true := by kernel_rfl
theorem EP : callable Tryz.prog 123 = true := by kernel_rfl
def headB (m : UInt8) (s : List UInt8) : Bool := s.head? == some m
theorem K5 (s : List UInt8) (m : UInt8) (hs : s.length < 9223372036854775808) : CallOk Tryz.prog 154 [.str s, .str [m]] (.bool (headB m s)) [] := by
 (refine AB (W := fun _ => false) false AS Tryz.func154 rfl zK zL (AC ?_); generalize hQ : Post Tryz.prog Tryz.f154 _ _ _ _ _ = Q; simp only [stIn, matL, matA, st00])
 cases s with
 | nil =>
  simp (disch := omega) only [go_sem, List.length_cons, List.length_nil]
  rw [← hQ]
  exact AG (.inl rfl) rfl (by simp [AA, headB] <;> omega) rfl
 | cons c cs =>
  simp only [List.length_cons] at hs
  simp (disch := omega) only [go_sem, List.length_cons, List.length_nil, List.take_succ_cons, List.take_zero]
  rw [← hQ]
  refine AG (.inl rfl) rfl (by simp [AA, headB] <;> omega) rfl
theorem Jn (s : List UInt8) (m : UInt8) (hs : s.length < 9223372036854775808) : CallOk Tryz.prog 142 [.str s, .str [m]] (.tup [.str (if headB m s = true then s.tail else s), .bool (headB m s)]) [] := by
 (refine AB (W := fun _ => false) false AS Tryz.func142 rfl zK zL (AC ?_); generalize hQ : Post Tryz.prog Tryz.f142 _ _ _ _ _ = Q; simp only [stIn, matL, matA, st00])
 simp (disch := omega) only [go_sem]
 refine AD (K5 s m hs) K4 zE zP zP ?_
 cases hh : headB m s with
 | false =>
  simp (disch := omega) only [go_sem]
  rw [← hQ, hh]
  exact Ag (.inl rfl) rfl zV zV rfl rfl
 | true =>
  cases s with
  | nil => simp [headB] at hh
  | cons c cs =>
   simp only [List.length_cons] at hs
   simp (disch := omega) only [go_sem, List.length_cons, List.length_nil]
   rw [← hQ, hh]
   exact Ag (.inl rfl) rfl zV zV rfl rfl
theorem K6 (s : List UInt8) (m : UInt8) (hs : s.length < 9223372036854775808) : CallOk Tryz.prog 124 [.str s, .str [m]] (.tup [.str (if headB m s = true then s.tail else s), .bool (headB m s)]) [] := by
 (refine AB (W := fun _ => false) false AS Tryz.func124 rfl zK zL (AC ?_); generalize hQ : Post Tryz.prog Tryz.f124 _ _ _ _ _ = Q; simp only [stIn, matL, matA, st00])
 simp (disch := omega) only [go_sem]
 refine AD (Jn s m hs) Jm zE zP zP ?_
 simp (disch := omega) only [go_sem]
 rw [← hQ]
 exact Ag (.inl rfl) rfl zV zV rfl rfl
theorem S6 (s : List UInt8) (m : UInt8) (hs : s.length < 9223372036854775808) : CallOk Tryz.prog 157 [.str s, .str [m]] (.int .i64 (findI m s)) [] := by
 (refine AB (W := fun _ => false) false AS Tryz.func157 rfl zK zL (AC ?_); generalize hQ : Post Tryz.prog Tryz.f157 _ _ _ _ _ = Q; simp only [stIn, matL, matA, st00])
 by_cases hms : s = [m]
 ·subst hms
  have e : ([m] == [m]) = true := by simp
  simp (disch := omega) only [go_sem, List.length_cons, List.length_nil, e]
  rw [← hQ]
  exact AG (.inl rfl) rfl (by simp [AA, findI, findB] <;> omega) rfl
 ·have e : ([m] == s) = false := by simpa using fun h : [m] = s => hms h.symm
  simp (disch := omega) only [go_sem, List.length_cons, List.length_nil, e]
  have hb : [m][Int.toNat 0]? = some m := rfl
  simp (disch := omega) only [go_sem, List.length_cons, List.length_nil, hb]
  refine AD (K3 s m) K2 zE zP zP ?_
  simp (disch := omega) only [go_sem]
  rw [← hQ]
  exact AG (.inl rfl) rfl zV rfl
def cutV (m : UInt8) (s : List UInt8) : AV := match findB m s with | some i => .tup [.str (s.take i), .str (s.drop (i + 1)), .bool true] | none => .tup [.str s, .str [], .bool false]
theorem On (m : UInt8) (s : List UInt8) : (cutV m s).pure = true := by unfold cutV; split <;> rfl
theorem VT (s : List UInt8) (m : UInt8) (hs : s.length < 9223372036854775808) : CallOk Tryz.prog 141 [.str s, .str [m]] (cutV m s) [] := by
 (refine AB (W := fun _ => false) false AS Tryz.func141 rfl zK zL (AC ?_); generalize hQ : Post Tryz.prog Tryz.f141 _ _ _ _ _ = Q; simp only [stIn, matL, matA, st00])
 simp (disch := omega) only [go_sem]
 refine AD (S6 s m hs) S5 zE zP zP ?_
 cases hf : findB m s with
 | none =>
  have e : findI m s = -1 := by simp [findI, hf]
  have e2 : cutV m s = .tup [.str s, .str [], .bool false] := by simp [cutV, hf]
  simp (disch := omega) only [go_sem, e]
  rw [← hQ, e2]
  exact EE (.inl rfl) rfl zV zV zV rfl rfl rfl
 | some i =>
  have e : findI m s = i := by simp [findI, hf]
  have e2 : cutV m s = .tup [.str (s.take i), .str (s.drop (i + 1)), .bool true] := by simp [cutV, hf]
  have hi := (Hl hf).1
  simp (disch := omega) only [go_sem, e, List.length_cons, List.length_nil, List.take_length]
  rw [← hQ, e2]
  exact EE (.inl rfl) rfl zV zV zV rfl rfl rfl
theorem XS (s : List UInt8) (m : UInt8) (hs : s.length < 9223372036854775808) : CallOk Tryz.prog 123 [.str s, .str [m]] (cutV m s) [] := by
 (refine AB (W := fun _ => false) false AS Tryz.func123 rfl zK zL (AC ?_); generalize hQ : Post Tryz.prog Tryz.f123 _ _ _ _ _ = Q; simp only [stIn, matL, matA, st00])
 simp (disch := omega) only [go_sem]
 refine AD (VT s m hs) VS (by simp [evA, AA]) zP (On m s) ?_
 unfold cutV at hQ ⊢
 cases hf : findB m s with
 | none =>
  simp only [hf] at hQ
  simp (disch := omega) only [go_sem]
  rw [← hQ]
  exact EE (.inl rfl) rfl zV zV zV rfl rfl rfl
 | some i =>
  simp only [hf] at hQ
  simp (disch := omega) only [go_sem]
  rw [← hQ]
  exact EE (.inl rfl) rfl zV zV zV rfl rfl rfl
end
end Go.Proofs.YthiddlfddncbmaaGreatDoor
