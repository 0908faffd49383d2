/- Ground 2. -/
import Derived.Laws.BytesArg
import Derived.Room.Entries
import Derived.Test.YtdljcbbodihagaaGreatDoorM1

set_option linter.unusedVariables false
set_option linter.unusedSimpArgs false
set_option maxRecDepth 100000
namespace Go.Proofs.YtdljcbbodihagaaGreatDoor
open Go

theorem move_priv {P : Program} {E : Env} (hE : Ok P E) (id : Nat) (hlv : (E.h id).lv = true) (c : Array Value) (xs : List AV) (vs : List Value) (cap : Nat) (hr : repL P E xs vs) (hc : CellsAt c 0 (szT P (E.h id).t) vs)
    (hcl : ∀ x ∈ xs, x.el P (E.h id).t = true) (hlt : (E.h id).xs.length < xs.length) (hle : xs.length ≤ cap) (hsz : cap * szT P (E.h id).t ≤ c.size) (hgr : (E.h id).gr = true) :
    let E' : Env := ⟨pushW E.w (.cells c (E.h id).t (0, 0)), E.I, upd E.m id ⟨E.w.heap.size, 0, cap⟩, upd E.h id { E.h id with xs := xs, ex := false }, E.nx⟩
    E.Le E' ∧ Ok P E' ∧ Goes P E E' := by
  intro E'
  have hmb : ∀ id, (E.h id).lv = true → (E.m id).b < E.w.heap.size := fun id h => by
    obtain ⟨c, vs, h1, _⟩ := (hE.blk id h).at_; exact lt_of_heap h1
  have hLe : E.Le E' := by
    refine ⟨Nat.le_refl _, fun b hb => ⟨hb, pushW_old (hE.imm b hb)⟩, fun i hi => ?_, fun i hi n hn h1 h2 => ?_⟩
    · by_cases h : i = id
      · subst h; simp only [E', upd, if_true]; omega
      · simp [E', upd, h]
    · by_cases h : i = id
      · subst h; simp only [E', upd, if_true] at h1 h2; omega
      · simp only [E', upd, h, if_false] at h1 h2 ⊢; exact ⟨h1, h2, by trivial, by trivial⟩
  have back : ∀ i, (E'.h i).lv = true → (E.h i).lv = true := fun i hi => by
    by_cases h : i = id
    · subst h; exact hlv
    · simpa [E', upd, h] using hi
  refine ⟨hLe, ⟨fun i hi => ?_, fun i j hi hj hij => ?_, fun b hb => Nat.lt_of_lt_of_le (hE.imm b hb) (by simp [E', pushW]), hE.tab.le hLe⟩, ?_⟩
  · by_cases h : i = id
    · subst h
      refine ⟨(hE.blk i hlv).lt, by simp [E', upd], by simp [E', upd], by simpa [E', upd] using hle, by simpa [E', upd] using hcl, ?_, ⟨c, vs, ?_, ?_, ?_, ?_⟩⟩
      · simp only [E', upd, if_true]; exact fun h => Nat.lt_irrefl _ (hE.imm _ h)
      · simp only [E', upd, if_true]; exact pushW_new
      · simp only [E', upd, if_true]; exact repL_mono hLe _ _ hr
      · simpa [E', upd] using hc
      · simpa [E', upd] using hsz
    · have hi' := back i hi
      exact (hE.blk i hi').move hLe (by simp [E', upd, h]) (by simp [E', upd, h]) (pushW_old (hmb i hi')) (hE.blk i hi').dark
  · have hi' := back i hi
    have hj' := back j hj
    by_cases h1 : i = id <;> by_cases h2 : j = id
    · rw [h1, h2]
    · simp only [E', upd, h1, h2, if_true, if_false] at hij
      exact absurd (hmb j hj') (by omega)
    · simp only [E', upd, h1, h2, if_true, if_false] at hij
      exact absurd (hmb i hi') (by omega)
    · simp only [E', upd, h1, h2, if_false] at hij
      exact hE.inj i j hi' hj' hij
  · refine ⟨rfl, rfl, rfl, by simp [E', pushW], fun b hb _ => pushW_old hb, fun i hi c' hc' => ⟨c', (pushW_old (hmb i hi)).trans hc', rfl, fun _ _ => rfl⟩, fun i hi => ?_, fun b hb => .inl hb, Nat.le_refl _, fun i _ => by by_cases h : i = id <;> simp [E', upd, h]⟩
    by_cases h : i = id
    · exact .inr ⟨by simp [E', upd, h], .inr (by rw [h]; exact hgr)⟩
    · have hi' := back i hi
      exact .inl ⟨hi', by simp [E', upd, h], by simp [E', upd, h], by simp [E', upd, h, Env.lim]⟩
theorem win_sound {P : Program} {E : Env} {st : St} {e : Nat} {ax : AV} {u : Value} {ys : List AV} (hE : Ok P E) (hh : st.h = E.h) (h : winA st e ax = some ys) (hx : rep P E ax u) :
    ∃ L a k, u = .slice a ys.length k ∧ repL P E ys L ∧ (∀ v ∈ L, v.cells.size = szT P e) ∧ (∀ y ∈ ys, y.el P e = true) ∧
      (Builtin.firstCells (szT P e) ys.length u).run P E.w = .ok (flat L).toArray E.w := by
  have key : ∀ (L : List Value) (c : Array Value) (t : TypeId) (fz : Nat × Nat) (b off k n : Nat), E.w.heap[b]? = some (.cells c t fz) → CellsAt c off (szT P e) L → n = L.length →
      (Builtin.firstCells (szT P e) n (.slice (some ⟨b, off, none⟩) n k)).run P E.w = .ok (flat L).toArray E.w := by
    intro L c t fz b off k n hb hc hn
    have := run_loadCells_list (P := P) E.w ⟨b, off, none⟩ (flat L) (fun j v hj => by rw [add_at, cell_at hb]; exact hc.flat_get j v hj)
    rw [flat_length hc.sizes, ← hn] at this
    exact this
  have zero : ∀ a k, (Builtin.firstCells (szT P e) 0 (.slice a 0 k)).run P E.w = .ok #[] E.w := by
    intro a k
    cases a with
    | none => rfl
    | some a => simp [Builtin.firstCells, loadCells, loadCellsFrom]
  unfold winA at h
  split at h
  · cases h
    simp only [rep] at hx
    obtain ⟨a, rfl⟩ := hx
    exact ⟨[], a, 0, rfl, by simp [repL], by simp, by simp, by simpa [flat] using zero a 0⟩
  · rename_i t xs sp ex
    split at h
    · rename_i ht; subst ht; cases h
      simp only [rep] at hx
      obtain ⟨a, cap, rfl, _, _, hcl, vs, us, hvs, hus, hne⟩ := hx
      by_cases h0 : ys.length = 0
      · have hxs : ys = [] := List.length_eq_zero_iff.1 h0
        subst hxs
        simp only [repL] at hvs; subst hvs
        exact ⟨[], a, cap, rfl, by simp [repL], by simp, by simp, by simpa [flat] using zero a cap⟩
      · obtain ⟨b, off, c, fz, rfl, hI, hb, hca⟩ := hne (by omega)
        have hv : CellsAt c off (szT P t) vs := by
          have := hca.take vs.length
          simpa using this
        exact ⟨vs, _, cap, rfl, hvs, hv.sizes, fun y hy => hcl y (by simp [hy]), key vs c fz.1 fz.2 b off cap _ hb hv (repL_length hvs).symm⟩
    · cases h
  · rename_i id n off len
    split at h
    · rename_i hc
      rw [hh] at hc h
      obtain ⟨hlv, hn, ht, hle⟩ := hc
      cases h
      simp only [rep] at hx
      obtain ⟨_, _, ad, k, rfl, hx⟩ := hx
      obtain ⟨h1, h2, h3⟩ := hx hlv hn
      have B := hE.blk id hlv
      obtain ⟨c, vs, hb, hrl, hca, _⟩ := B.at_
      have hll : (((E.h id).xs.drop off).take len).length = len := by rw [List.length_take, List.length_drop]; omega
      by_cases h0 : len = 0
      · subst h0
        have : (((E.h id).xs.drop off).take 0) = [] := by simp
        rw [this]
        exact ⟨[], some ad, k, rfl, by simp [repL], by simp, by simp, by simpa [flat] using zero (some ad) k⟩
      · have hB := B.le
        cases h3 (by omega)
        have hv := (hca.drop off).take len
        refine ⟨(vs.drop off).take len, _, k, by rw [hll], repL_take (repL_drop hrl off) len, ?_, fun y hy => ?_, ?_⟩
        · rw [← ht]; exact hv.sizes
        · rw [← ht]; exact B.cl y (List.mem_of_mem_drop (List.mem_of_mem_take hy))
        · rw [← ht] at key ⊢
          rw [hll]
          exact key _ c _ _ _ _ _ _ hb hv (by rw [List.length_take, List.length_drop, repL_length hrl]; omega)
    · cases h
  · cases h
theorem append_room {P : Program} {w w' : World} {t u e ty n k m kk : Nat} {i : TypeInfo} {a x : Option Addr} {new : Array Value} (ht : elT P t = some e) (hu : elT P u = some e) (hi : P.info? e = some i)
  (hle : n + m ≤ k) (hnew : (Builtin.firstCells (szT P e) m (.slice x m kk)).run P w = .ok new w)
  (hst : (match a with | some a => storeCells (a.add (n * szT P e)) new.toList | none => pure () : Sem Unit).run P w = .ok () w') :
  (Builtin.append_ #[t, u] ty #[.slice a n k, .slice x m kk]).run P w = .ok (.slice a (n + m) k) w' := by
 simp only [Builtin.append_, List.getElem?_toArray, List.getElem?_cons_zero, List.getElem?_cons_succ, Sem.run_bind, run_underlying (elT_und ht), run_underlying (elT_und hu), Result.andThen_ok, run_sizeOf hi, Sem.run_pure, Builtin.lenOf, Bool.false_eq_true, if_false, hle, if_true, Bool.not_false]
 rw [hnew]
 simp only [Result.andThen_ok]
 cases a with
 | none => simp only at hst ⊢; simp only [Sem.run_pure, Result.ok.injEq, true_and] at hst; subst hst; simp
 | some a => simp only at hst ⊢; rw [Sem.run_bind, hst]; rfl
theorem append_grow {P : Program} {w : World} {t u e ty n k m kk : Nat} {z : Value} {a x : Option Addr} {old new : List Value} (ht : elT P t = some e) (hu : elT P u = some e) (hz : (P.info? e).bind (·.zero) = some z)
    (hzs : z.cells.size = szT P e) (hgt : k < n + m) (hb : (n + m) * byT P e ≤ reach) (hr : n + m ≤ reach) (hold : (Builtin.firstCells (szT P e) n (.slice a n k)).run P (drewW w) = .ok old.toArray (drewW w))
    (hnew : (Builtin.firstCells (szT P e) m (.slice x m kk)).run P (drewW w) = .ok new.toArray (drewW w)) (hlo : old.length = n * szT P e) (hln : new.length = m * szT P e) :
    ∃ cap c, n + m ≤ cap ∧ c.size = cap * szT P e ∧ (∀ p, p < (n + m) * szT P e → c[p]? = (old ++ new)[p]?) ∧
      (Builtin.append_ #[t, u] ty #[.slice a n k, .slice x m kk]).run P w = .ok (.slice (some ⟨w.heap.size, 0, none⟩) (n + m) cap) (pushW (drewW w) (.cells c e (0, 0))) := by
  obtain ⟨i, hi⟩ := Option.isSome_iff_exists.1 (info_of_zero hz)
  have hby : byT P e = i.bytes := by simp [byT, hi]
  have hroom : ∀ n w, (askRoom n).run P w = .ok () w := fun n w => by unfold askRoom; split <;> rfl
  have hcut : ∃ cap, n + m ≤ cap ∧ (choose (.appendCap (n + m) k e)).run P w = .ok cap (drewW w) := by
    refine ⟨(Question.appendCap (n + m) k e).cut (w.tape w.drawn (.appendCap (n + m) k e)), ?_, ?_⟩
    · simp [Question.cut]
    · simp [choose, Sem.run, Question.forced, drewW]
  obtain ⟨cap, hcap, hch⟩ := hcut
  have h1 : ¬ ((n + m : Nat) : Int) > IntKind.i64.max := by
    have h3 : IntKind.i64.max = 9223372036854775807 := by decide
    rw [h3]; unfold reach at hr; omega
  have h2 : ¬ Builtin.nextslicecap (n + m) k * i.bytes > 2 ^ 48 := by
    have := Room.nextslicecap_le' hgt
    have h4 : Builtin.nextslicecap (n + m) k * i.bytes ≤ 2 * (n + m) * i.bytes := Nat.mul_le_mul_right _ this
    rw [← hby] at h4 ⊢
    rw [Nat.mul_assoc] at h4
    unfold reach at hb; omega
  refine ⟨cap, old.toArray ++ new.toArray ++ Builtin.zeroCells z.cells (cap - (n + m)), hcap, ?_, ?_, ?_⟩
  · simp only [Array.size_append, List.size_toArray, Builtin.zeroCells, Array.size_map, Array.size_range, hlo, hln, hzs]
    rw [← Nat.add_mul, ← Nat.add_mul]; congr 1; omega
  · intro p hp
    rw [Nat.add_mul] at hp
    rw [Array.getElem?_append_left (by simp only [Array.size_append, List.size_toArray, hlo, hln]; exact hp)]
    simp
  · have hnle : ¬ n + m ≤ k := by omega
    simp only [Builtin.append_, List.getElem?_toArray, List.getElem?_cons_zero, List.getElem?_cons_succ, Sem.run_bind, run_underlying (elT_und ht), run_underlying (elT_und hu), Result.andThen_ok, run_sizeOf hi, Sem.run_pure, Builtin.lenOf, Bool.false_eq_true, if_false, hnle, Bool.not_false, if_true]
    simp only [run_typeInfo hi, Result.andThen_ok, h1, false_and, if_false, h2, hch, hroom, hold, hnew, Sem.run_bind, run_zero hz, run_newRow, Sem.run_pure]
    rfl
theorem zokT_val {P : Program} {e : Nat} (h : zokT P e = true) : ∃ z, (P.info? e).bind (·.zero) = some z ∧ z.cells.size = szT P e := by
  unfold zokT at h
  cases hz : zeroA P e with
  | none => rw [hz] at h; simp at h
  | some x =>
    rw [hz] at h
    obtain ⟨v, hv, rfl⟩ := zeroA_val hz
    exact ⟨v, hv, el_size (E := ⟨default, fun _ => False, fun _ => ⟨0, 0, 0⟩, fun _ => Blk.dead, 0⟩) (rep_ofVal v) (by simpa using h)⟩
theorem grown_cells {P : Program} {e : Nat} {c : Array Value} {L0 L : List Value} (h0 : ∀ v ∈ L0, v.cells.size = szT P e) (h1 : ∀ v ∈ L, v.cells.size = szT P e)
    (hc : ∀ p, p < (L0.length + L.length) * szT P e → c[p]? = (flat L0 ++ flat L)[p]?) : CellsAt c 0 (szT P e) (L0 ++ L) := by
  have hs : ∀ v ∈ L0 ++ L, v.cells.size = szT P e := fun v hv => (List.mem_append.1 hv).elim (h0 v) (h1 v)
  refine CellsAt.of_flat hs fun p u hp => ?_
  have hlt : p < (L0.length + L.length) * szT P e := by
    rcases Nat.lt_or_ge p (flat (L0 ++ L)).length with h' | h'
    · rw [flat_length hs, List.length_append] at h'; exact h'
    · rw [List.getElem?_eq_none h'] at hp; cases hp
  rw [Nat.zero_add, hc p hlt, ← flat_append]; exact hp
theorem flat_take {sz : Nat} : ∀ (k : Nat) {vs : List Value}, (∀ v ∈ vs, v.cells.size = sz) → flat (vs.take k) = (flat vs).take (k * sz)
 | 0, vs, _ => by simp [flat]
 | k + 1, [], _ => by simp [flat]
 | k + 1, v :: vs, h => by
  have h1 := flat_take k (vs := vs) (fun x hx => h x (by simp [hx]))
  have h2 : v.cells.toList.length = sz := by simpa using h v (by simp)
  simp only [flat, List.take_succ_cons, List.flatMap_cons] at h1 ⊢
  have e1 : v.cells.toList.take ((k + 1) * sz) = v.cells.toList := List.take_of_length_le (by rw [h2, Nat.add_mul]; omega)
  have e2 : (k + 1) * sz - v.cells.toList.length = k * sz := by rw [h2, Nat.add_mul]; omega
  rw [h1, List.take_append, e1, e2]
theorem flat_drop {sz : Nat} : ∀ (k : Nat) {vs : List Value}, (∀ v ∈ vs, v.cells.size = sz) → flat (vs.drop k) = (flat vs).drop (k * sz)
 | 0, vs, _ => by simp [flat]
 | k + 1, [], _ => by simp [flat]
 | k + 1, v :: vs, h => by
  have h1 := flat_drop k (vs := vs) (fun x hx => h x (by simp [hx]))
  have h2 : v.cells.toList.length = sz := by simpa using h v (by simp)
  simp only [flat, List.drop_succ_cons, List.flatMap_cons] at h1 ⊢
  have e1 : v.cells.toList.drop ((k + 1) * sz) = [] := List.drop_eq_nil_of_le (by rw [h2, Nat.add_mul]; omega)
  have e2 : (k + 1) * sz - v.cells.toList.length = k * sz := by rw [h2, Nat.add_mul]; omega
  rw [h1, List.drop_append, e1, e2, List.nil_append]
theorem rep_ref_mk {P : Program} {E : Env} {id n len cap b : Nat} (h1 : id < E.nx) (h2 : (E.h id).xs.length = n) (h3 : E.m id = ⟨b, 0, cap⟩) (hl : len ≤ n) :
  rep P E (.ref id n 0 len) (.slice (some ⟨b, 0, none⟩) len cap) := by
 simp only [rep]
 refine ⟨h1, by omega, _, cap, rfl, fun _ _ => ⟨by omega, by rw [h3]; rfl, fun _ => by rw [h3]; simp⟩⟩
set_option maxHeartbeats 1600000 in
theorem append_sound {P : Program} {E : Env} {st st' : St} {t u e ty : Nat} {s ax z : AV} {ys : List AV} {us ux : Value} (hE : Ok P E) (hh : st.h = E.h) (hnx : st.nx = E.nx)
    (ht : elT P t = some e) (hu : elT P u = some e) (hzok : zokT P e = true) (hw : winA st e ax = some ys) (h : appendA P st e s ys = some (z, st')) (hs : rep P E s us) (hx : rep P E ax ux) :
    st'.fr = st.fr ∧ Does P E (Builtin.append_ #[t, u] ty #[us, ux]) z st'.h st'.nx := by
  obtain ⟨zv, hzv, hzs⟩ := zokT_val hzok
  obtain ⟨i, hi⟩ := Option.isSome_iff_exists.1 (info_of_zero hzv)
  obtain ⟨L, xa, xk, rfl, hL, hLs, hLe, hfirst⟩ := win_sound hE hh hw hx
  have hLl : (flat L).length = ys.length * szT P e := by rw [flat_length hLs, repL_length hL]
  obtain ⟨D1, D2, D3⟩ := drew_env hE
  have hwD : winA st e ax = some ys := hw
  obtain ⟨L', xa', xk', hxe, hL', hLs', _, hfirst'⟩ := win_sound (E := ⟨drewW E.w, E.I, E.m, E.h, E.nx⟩) D2 hh hwD (rep_mono D1 _ _ hx)
  cases hxe
  have hLl' : (flat L').length = ys.length * szT P e := by rw [flat_length hLs', repL_length hL']
  unfold appendA at h
  split at h
  · -- nil
    simp only [rep] at hs
    obtain ⟨a, rfl⟩ := hs
    split at h
    · rename_i hys
      cases h
      refine ⟨rfl, ?_⟩
      rw [hh, hnx]
      refine Does.same hE ⟨.slice a 0 0, ?_, by simp [rep]⟩
      subst hys
      have hf : flat L = [] := List.length_eq_zero_iff.1 (by simp [hLl])
      have := append_room (P := P) (w := E.w) (w' := E.w) (ty := ty) (n := 0) (k := 0) (a := a) ht hu hi (by simp) hfirst (by
        rw [hf]; cases a <;> rfl)
      simpa using this
    · rename_i hys
      split at h
      · rename_i hb
        cases h
        refine ⟨rfl, ?_⟩
        have hpos : 0 < ys.length := List.length_pos_iff.2 hys
        obtain ⟨cap, c, g1, g2, g3, g4⟩ := append_grow (P := P) (w := E.w) (ty := ty) (n := 0) (k := 0) (a := a) (old := []) ht hu hzv hzs (by omega) (by simpa using hb.1) (by simpa using hb.2)
          (by cases a <;> simp [Builtin.firstCells, loadCells, loadCellsFrom]) hfirst' (by simp) hLl'
        obtain ⟨n1, n2, n3⟩ := new_priv D2 c e ys L' cap false true hL' (by
          have := grown_cells (P := P) (e := e) (c := c) (L0 := []) (L := L') (by simp) hLs' (fun p hp => by
            have := g3 p (by simpa [repL_length hL'] using hp)
            simpa [flat] using this)
          simpa using this) hLe (by simpa using g1) (by simp) (by omega)
        refine ⟨⟨pushW (drewW E.w) (.cells c e (0, 0)), E.I, upd E.m E.nx ⟨E.w.heap.size, 0, cap⟩, upd E.h E.nx ⟨e, ys, false, true, true⟩, E.nx + 1⟩, .slice (some ⟨E.w.heap.size, 0, none⟩) ys.length cap, ?_, ?_, D1.trans n1, n2, D3.trans hE n3, ?_, ?_⟩
        · simp [St.new, hh, hnx]
        · simp [St.new, hnx]
        · simpa using g4
        · rw [hnx]; exact rep_ref_mk (Nat.lt_succ_self _) (by simp [upd]) (by simp [upd]) (Nat.le_refl _)
      · cases h
  · -- a slice that nobody writes and that is full
    rename_i t' xs sp ex
    split at h
    · rename_i hc
      obtain ⟨hex, hsp, hys, hte⟩ := hc
      subst hte; subst hsp
      split at h
      · rename_i hb
        cases h
        refine ⟨rfl, ?_⟩
        have hs' := rep_mono D1 _ _ hs
        have hs0 := hs
        simp only [rep] at hs
        obtain ⟨a, k, rfl, hk1, hk2, hcl, _⟩ := hs
        have hk := hk2 hex
        simp only [List.length_nil, Nat.add_zero] at hk
        have hpos : 0 < ys.length := List.length_pos_iff.2 hys
        obtain ⟨L0, a0, k0, he0, hL0, hLs0, hLe0, hf0⟩ := win_sound (E := ⟨drewW E.w, E.I, E.m, E.h, E.nx⟩) (st := st) (e := t') (ys := xs) D2 hh (by simp [winA]) hs'
        cases he0
        have hLl0 : (flat L0).length = xs.length * szT P t' := by rw [flat_length hLs0, repL_length hL0]
        obtain ⟨cap, c, g1, g2, g3, g4⟩ := append_grow (P := P) (w := E.w) (ty := ty) (n := xs.length) (k := k) (a := a) (old := flat L0) ht hu hzv hzs (by omega) hb.1 hb.2
          hf0 hfirst' hLl0 hLl'
        obtain ⟨n1, n2, n3⟩ := new_priv D2 c t' (xs ++ ys) (L0 ++ L') cap false true (repL_append hL0 hL') (grown_cells hLs0 hLs' (fun p hp => g3 p (by simpa [repL_length hL', repL_length hL0] using hp)))
          (fun x hx => (List.mem_append.1 hx).elim (hLe0 x) (hLe x)) (by simpa using g1) (by simp) (by omega)
        refine ⟨⟨pushW (drewW E.w) (.cells c t' (0, 0)), E.I, upd E.m E.nx ⟨E.w.heap.size, 0, cap⟩, upd E.h E.nx ⟨t', xs ++ ys, false, true, true⟩, E.nx + 1⟩, .slice (some ⟨E.w.heap.size, 0, none⟩) (xs.length + ys.length) cap, ?_, ?_, D1.trans n1, n2, D3.trans hE n3, g4, ?_⟩
        · simp [St.new, hh, hnx]
        · simp [St.new, hnx]
        · rw [hnx]; exact rep_ref_mk (Nat.lt_succ_self _) (by simp [upd]) (by simp [upd]) (Nat.le_refl _)
      · cases h
    · split at h
      · rename_i hc
        obtain ⟨rfl, hte⟩ := hc
        cases h
        refine ⟨rfl, ?_⟩
        rw [hh, hnx]
        have hs0 := hs
        simp only [rep] at hs
        obtain ⟨a, k, rfl, hk1, _⟩ := hs
        have hf : flat L = [] := List.length_eq_zero_iff.1 (by simp [hLl])
        refine Does.same hE ⟨.slice a xs.length k, ?_, hs0⟩
        have := append_room (P := P) (w := E.w) (w' := E.w) (ty := ty) (n := xs.length) (k := k) (a := a) ht hu hi (by simp; omega) hfirst (by
          rw [hf]; cases a <;> rfl)
        simpa using this
      · cases h
  · -- a private block
    rename_i id n off len
    split at h
    · rename_i hc
      rw [hh] at hc h
      obtain ⟨hlv, hn, hte, hle⟩ := hc
      have B := hE.blk id hlv
      obtain ⟨c, vs, hb, hrl, hca, hcs⟩ := B.at_
      have hs' := rep_mono D1 _ _ hs
      have hs0 := hs
      simp only [rep] at hs
      obtain ⟨hid, hnl, ad, k, rfl, hs⟩ := hs
      obtain ⟨_, hk, hkad⟩ := hs hlv hn
      have hBle := B.le
      split at h
      · -- in what is known
        rename_i hin
        cases h
        refine ⟨rfl, ?_⟩
        by_cases hys : ys = []
        · subst hys
          have hsame : upd E.h id { E.h id with xs := (E.h id).xs.take (off + len) ++ [] ++ (E.h id).xs.drop (off + len + ([] : List AV).length) } = E.h := by
            funext j
            by_cases hj : j = id
            · subst hj; simp [upd]
            · simp [upd, hj]
          rw [hh] at *
          rw [hsame, hnx]
          have hf : flat L = [] := List.length_eq_zero_iff.1 (by simp [hLl])
          refine Does.same hE ⟨.slice (some ad) len k, ?_, by simpa using hs0⟩
          have := append_room (P := P) (w := E.w) (w' := E.w) (ty := ty) (n := len) (k := k) (a := some ad) (m := 0) ht hu hi (by omega) hfirst (by rw [hf]; rfl)
          simpa using this
        · have hpos : 0 < ys.length := List.length_pos_iff.2 hys
          cases hkad (by omega)
          have hvl := repL_length hrl
          obtain ⟨S, hS⟩ : ∃ S, S = szT P (E.h id).t := ⟨_, rfl⟩
          rw [hte] at hS
          have hnS : (off + len + ys.length) * S ≤ n * S := Nat.mul_le_mul_right _ hin
          have hcapS : n * S ≤ (E.m id).cap * S := Nat.mul_le_mul_right _ (by omega)
          have hlimS : n * S ≤ E.lim id * S := Nat.mul_le_mul_right _ (by unfold Env.lim; split <;> omega)
          rw [Nat.add_mul, Nat.add_mul] at hnS
          rw [hte, ← hS] at hca hcs
          rw [← hS] at hLs hLl hfirst
          obtain ⟨o, ho⟩ : ∃ o, o = (E.m id).base + off * S + len * S := ⟨_, rfl⟩
          have hcl : c.toList.length = c.size := by simp
          have hol : o + (flat L).length ≤ c.toList.length := by omega
          have hget := splice_get (l := c.toList) (ns := flat L) hol
          have hfv : (flat vs).length = n * S := by rw [flat_length hca.sizes, hvl, hn]
          have hone : ∀ v ∈ flat L, v.oneCell' = true := by
            intro v hv
            obtain ⟨x, hx1, hx2⟩ := List.mem_flatMap.1 hv
            obtain ⟨j, hj⟩ := List.getElem?_of_mem hx1
            have hjl : j < ys.length := by
              rw [← repL_length hL]
              rcases Nat.lt_or_ge j L.length with h' | h'
              · exact h'
              · rw [List.getElem?_eq_none h'] at hj; cases hj
            obtain ⟨x', hx3, hx4⟩ := repL_get hL j _ (List.getElem?_eq_getElem hjl)
            rw [hj] at hx3; cases hx3
            have hye := hLe _ (List.getElem_mem hjl)
            exact repL_one (rep_cells hx4 (by rw [el_len hye, hLs x hx1, hS])) (el_one hye) v hx2
          have W := write_priv hE id hlv c (c.toList.take o ++ flat L ++ c.toList.drop (o + (flat L).length)).toArray ((E.h id).xs.take (off + len) ++ ys ++ (E.h id).xs.drop (off + len + ys.length))
            (vs.take (off + len) ++ L ++ vs.drop (off + len + ys.length)) (E.h id).ex hb
            (by have := splice_length (l := c.toList) (ns := flat L) hol; simpa using this)
            (fun p hp => by
              rw [hte, ← hS] at hp
              rw [List.getElem?_toArray, hget]
              by_cases hpo : p < o
              · rw [if_pos hpo, Array.getElem?_toList]
              · rw [if_neg hpo, if_neg (by omega), Array.getElem?_toList])
            (.inr (splice_length (l := (E.h id).xs) (ns := ys) (by omega)))
            (repL_append (repL_append (repL_take hrl _) hL) (repL_drop hrl _))
            (by
              rw [hte, ← hS]
              refine CellsAt.of_flat (fun v hv => ?_) fun p u hp => ?_
              · simp only [List.mem_append] at hv
                rcases hv with (hv | hv) | hv
                · exact hca.sizes v (List.mem_of_mem_take hv)
                · exact hLs v hv
                · exact hca.sizes v (List.mem_of_mem_drop hv)
              · rw [flat_append, flat_append, flat_take _ hca.sizes, flat_drop _ hca.sizes, Nat.add_mul (off + len) ys.length, ← hLl] at hp
                rw [splice_get (by rw [hfv, Nat.add_mul, hLl]; omega)] at hp
                rw [List.getElem?_toArray, hget]
                rw [Nat.add_mul] at hp
                by_cases q1 : p < off * S + len * S
                · rw [if_pos q1] at hp
                  rw [if_pos (by omega), Array.getElem?_toList]
                  exact hca.flat_get p u hp
                · rw [if_neg q1] at hp
                  by_cases q2 : p < off * S + len * S + (flat L).length
                  · rw [if_pos q2] at hp
                    rw [if_neg (by omega), if_pos (by omega), ← hp]; congr 1; omega
                  · rw [if_neg q2] at hp
                    rw [if_neg (by omega), if_neg (by omega), Array.getElem?_toList]
                    exact hca.flat_get p u hp)
            (by
              intro x hx
              simp only [List.mem_append] at hx
              rcases hx with (hx | hx) | hx
              · exact B.cl x (List.mem_of_mem_take hx)
              · rw [hte]; exact hLe x hx
              · exact B.cl x (List.mem_of_mem_drop hx))
            (Nat.le_of_eq (splice_length (l := (E.h id).xs) (ns := ys) (by omega)).symm)
            (by rw [splice_length (l := (E.h id).xs) (ns := ys) (by omega)]; exact B.le)
            (by rw [splice_length (l := (E.h id).xs) (ns := ys) (by omega)]; exact B.ex)
          obtain ⟨W1, W2, W3⟩ := W
          have hrun := run_storeCells_at (P := P) (E.m id).b o (E.h id).t (flat L) 0 c E.w hb (by rw [hcl] at hol; simpa using hol) hone
          simp only [Nat.add_zero] at hrun
          have hroom := append_room (P := P) (w := E.w) (ty := ty) (n := len) (m := ys.length) (k := k) (a := some ⟨(E.m id).b, (E.m id).base + off * szT P (E.h id).t, none⟩) ht hu hi (by omega) (by rw [← hS]; exact hfirst) (by
            simp only [add_at]
            rw [hte, ← hS, ← ho]; exact hrun)
          refine ⟨_, _, ?_, ?_, W1, W2, W3, hroom, ?_⟩
          · simp [hh]
          · exact hnx.symm
          · simp only [rep]
            have hlen := splice_length (l := (E.h id).xs) (ns := ys) (o := off + len) (by omega)
            refine ⟨hid, by simp only [upd, if_true]; rw [hlen]; exact hnl, _, k, rfl, fun _ _ => ⟨by omega, hk, fun _ => by simp [upd]⟩⟩
      · rename_i hnin
        split at h
        · rename_i hg
          obtain ⟨rfl, rfl, hgr, hb1, hb2⟩ := hg
          subst hn
          cases h
          refine ⟨rfl, ?_⟩
          have hpos : 0 < ys.length := by omega
          obtain ⟨S, hS⟩ : ∃ S, S = szT P (E.h id).t := ⟨_, rfl⟩
          rw [hte] at hS
          have hvl := repL_length hrl
          by_cases hroomy : (E.h id).xs.length + ys.length ≤ k
          · cases hkad (by omega)
            have hnS : ((E.h id).xs.length + ys.length) * S ≤ (E.m id).cap * S := Nat.mul_le_mul_right _ (by omega)
            rw [Nat.add_mul] at hnS
            rw [hte, ← hS] at hca hcs
            rw [← hS] at hLs hLl hfirst
            obtain ⟨o, ho⟩ : ∃ o, o = (E.m id).base + (E.h id).xs.length * S := ⟨_, rfl⟩
            have hcl : c.toList.length = c.size := by simp
            have hol : o + (flat L).length ≤ c.toList.length := by omega
            have hget := splice_get (l := c.toList) (ns := flat L) hol
            have hfv : (flat vs).length = (E.h id).xs.length * S := by rw [flat_length hca.sizes, hvl]
            have hone : ∀ v ∈ flat L, v.oneCell' = true := by
              intro v hv
              obtain ⟨x, hx1, hx2⟩ := List.mem_flatMap.1 hv
              obtain ⟨j, hj⟩ := List.getElem?_of_mem hx1
              have hjl : j < ys.length := by
                rw [← repL_length hL]
                rcases Nat.lt_or_ge j L.length with h' | h'
                · exact h'
                · rw [List.getElem?_eq_none h'] at hj; cases hj
              obtain ⟨x', hx3, hx4⟩ := repL_get hL j _ (List.getElem?_eq_getElem hjl)
              rw [hj] at hx3; cases hx3
              have hye := hLe _ (List.getElem_mem hjl)
              exact repL_one (rep_cells hx4 (by rw [el_len hye, hLs x hx1, hS])) (el_one hye) v hx2
            have W := write_priv hE id hlv c (c.toList.take o ++ flat L ++ c.toList.drop (o + (flat L).length)).toArray ((E.h id).xs ++ ys) (vs ++ L) false hb
              (by have := splice_length (l := c.toList) (ns := flat L) hol; simpa using this)
              (fun p hp => by
                have hl : E.lim id = (E.m id).cap := by simp [Env.lim, hgr]
                rw [hte, ← hS, hl] at hp
                rw [List.getElem?_toArray, hget]
                by_cases hpo : p < o
                · rw [if_pos hpo, Array.getElem?_toList]
                · rw [if_neg hpo, if_neg (by omega), Array.getElem?_toList])
              (.inl hgr) (repL_append hrl hL)
              (by
                rw [hte, ← hS]
                refine CellsAt.of_flat (fun v hv => (List.mem_append.1 hv).elim (hca.sizes v) (hLs v)) fun p u hp => ?_
                rw [flat_append] at hp
                rw [List.getElem?_toArray, hget]
                by_cases q1 : p < (E.h id).xs.length * S
                · rw [List.getElem?_append_left (by omega)] at hp
                  rw [if_pos (by omega), Array.getElem?_toList]
                  exact hca.flat_get p u hp
                · rw [List.getElem?_append_right (by omega), hfv] at hp
                  have hpl : p - (E.h id).xs.length * S < (flat L).length := by
                    rcases Nat.lt_or_ge (p - (E.h id).xs.length * S) (flat L).length with h' | h'
                    · exact h'
                    · rw [List.getElem?_eq_none h'] at hp; cases hp
                  rw [if_neg (by omega), if_pos (by omega), ← hp]; congr 1; omega)
              (fun x hx => (List.mem_append.1 hx).elim (B.cl x) (fun h => by rw [hte]; exact hLe x h))
              (by simp) (by rw [List.length_append]; omega) (by simp)
            obtain ⟨W1, W2, W3⟩ := W
            have hrun := run_storeCells_at (P := P) (E.m id).b o (E.h id).t (flat L) 0 c E.w hb (by rw [hcl] at hol; simpa using hol) hone
            simp only [Nat.add_zero] at hrun
            have hroom := append_room (P := P) (w := E.w) (ty := ty) (n := (E.h id).xs.length) (m := ys.length) (k := k) (a := some ⟨(E.m id).b, (E.m id).base + 0 * szT P (E.h id).t, none⟩) ht hu hi (by omega) (by rw [← hS]; exact hfirst) (by
              simp only [add_at]
              rw [Nat.zero_mul, Nat.add_zero, ← hS, ← ho]; exact hrun)
            refine ⟨_, _, ?_, ?_, W1, W2, W3, hroom, ?_⟩
            · simp [hh]
            · exact hnx.symm
            · simp only [rep]
              refine ⟨hid, by simp [upd], _, k, rfl, fun _ _ => ⟨by omega, hk, fun _ => by simp [upd]⟩⟩
          · obtain ⟨L0, a0, k0, he0, hL0, hLs0, hLe0, hf0⟩ := win_sound (E := ⟨drewW E.w, E.I, E.m, E.h, E.nx⟩) (st := st) (e := e) (ys := (E.h id).xs) D2 hh (by
              simp [winA, hh, hlv, hte]) hs'
            cases he0
            have hLl0 : (flat L0).length = (E.h id).xs.length * szT P e := by rw [flat_length hLs0, repL_length hL0]
            obtain ⟨cap, c1, g1, g2, g3, g4⟩ := append_grow (P := P) (w := E.w) (ty := ty) (n := (E.h id).xs.length) (k := k) (a := some ad) (old := flat L0) ht hu hzv hzs (by omega) hb1 hb2
              hf0 hfirst' hLl0 hLl'
            rw [← hte] at g4
            obtain ⟨n1, n2, n3⟩ := move_priv D2 id hlv c1 ((E.h id).xs ++ ys) (L0 ++ L') cap (repL_append hL0 hL')
              (by
                show CellsAt c1 0 (szT P (E.h id).t) (L0 ++ L')
                rw [hte]
                exact grown_cells hLs0 hLs' (fun p hp => g3 p (by simpa [repL_length hL', repL_length hL0] using hp)))
              (fun x hx => by
                show x.el P (E.h id).t = true
                rw [hte]
                exact (List.mem_append.1 hx).elim (hLe0 x) (hLe x))
              (by show (E.h id).xs.length < _; rw [List.length_append]; omega) (by simpa using g1) (by show cap * szT P (E.h id).t ≤ _; rw [hte]; exact Nat.le_of_eq g2.symm) hgr
            refine ⟨⟨pushW (drewW E.w) (.cells c1 (E.h id).t (0, 0)), E.I, upd E.m id ⟨E.w.heap.size, 0, cap⟩, upd E.h id { E.h id with xs := (E.h id).xs ++ ys, ex := false }, E.nx⟩, .slice (some ⟨E.w.heap.size, 0, none⟩) ((E.h id).xs.length + ys.length) cap, ?_, ?_, D1.trans n1, n2, D3.trans hE n3, g4, ?_⟩
            · simp [hh]
            · exact hnx.symm
            · exact rep_ref_mk hid (by simp [upd]) (by simp [upd]) (Nat.le_refl _)
        · cases h
    · cases h
  · cases h
theorem appendN_sound {P : Program} {E : Env} {st st' : St} {t u e ty : Nat} {s ax z : AV} {us ux : Value} (hE : Ok P E) (hh : st.h = E.h) (hnx : st.nx = E.nx)
    (ht : elT P t = some e) (h : appendN P st u e s ax = some (z, st')) (hs : rep P E s us) (hx : rep P E ax ux) :
    st'.fr = st.fr ∧ Does P E (Builtin.append_ #[t, u] ty #[us, ux]) z st'.h st'.nx := by
  unfold appendN at h
  split at h
  · rename_i k n
    split at h
    · rename_i hc
      obtain ⟨hcnt, h0, hb, hr, hsz0⟩ := hc
      obtain ⟨z0, hz, h⟩ := Option.bind_eq_some_iff.1 h
      split at h
      · rename_i he
        simp only [Option.some.injEq, Prod.mk.injEq] at h
        obtain ⟨rfl, rfl⟩ := h
        refine ⟨rfl, ?_⟩
        obtain ⟨v, hv, rfl⟩ := zeroA_val hz
        have hrv := rep_ofVal (P := P) (E := E) v
        have hsz := el_size hrv he
        obtain ⟨i, hi⟩ := Option.isSome_iff_exists.1 (info_of_zero hv)
        have hby : byT P e = i.bytes := by simp [byT, hi]
        obtain ⟨m, rfl⟩ : ∃ m : Nat, n = m := ⟨n.toNat, by omega⟩
        simp only [Int.toNat_natCast]
        simp only [rep] at hs hx
        obtain ⟨a, rfl⟩ := hs
        subst hx
        obtain ⟨D1, D2, D3⟩ := drew_env hE
        obtain ⟨kk, hu⟩ : ∃ kk, P.underlying u = some (.int kk) := by
          unfold cntT at hcnt
          split at hcnt
          · rename_i kk hk; exact ⟨kk, hk⟩
          · cases hcnt
        have hm : 0 < m := by omega
        have hbm : m * i.bytes ≤ 140737488355328 := by
          rw [hby, ← Int.natCast_mul] at hb; unfold reach at hb; omega
        have hrm : m ≤ 140737488355328 := by unfold reach at hr; omega
        have hroom : ∀ n w, (askRoom n).run P w = .ok () w := fun n w => by unfold askRoom; split <;> rfl
        have hcut : ∃ cap, m ≤ cap ∧ (choose (.appendCap m 0 e)).run P E.w = .ok cap (drewW E.w) := by
          refine ⟨(Question.appendCap m 0 e).cut (E.w.tape E.w.drawn (.appendCap m 0 e)), ?_, ?_⟩
          · simp [Question.cut]
          · simp [choose, Sem.run, Question.forced, drewW]
        obtain ⟨cap, hcap, hch⟩ := hcut
        have h1 : ¬ ((m : Nat) : Int) > IntKind.i64.max := by
          have h3 : IntKind.i64.max = 9223372036854775807 := by decide
          rw [h3]; omega
        have h2 : ¬ Builtin.nextslicecap m 0 * i.bytes > 2 ^ 48 := by
          have := Room.nextslicecap_le' hm
          have h4 : Builtin.nextslicecap m 0 * i.bytes ≤ 2 * m * i.bytes := Nat.mul_le_mul_right _ this
          rw [Nat.mul_assoc] at h4
          omega
        have hw64 : IntKind.i64.wrap (m : Int) = m := wrap64_id (by omega) (by omega)
        have h5 : ¬ ((m : Int) < 0) := by omega
        have h6 : ¬ ((m : Int) * (i.bytes : Int) > 2 ^ 48) := by
          have : ((m * i.bytes : Nat) : Int) ≤ 140737488355328 := Int.ofNat_le.2 hbm
          rw [Int.natCast_mul] at this; omega
        have h7 : ¬ (m * szT P e = 0) := by
          intro h; rcases Nat.mul_eq_zero.1 h with h | h <;> omega
        have h8 : ¬ (m ≤ 0) := by omega
        have hfst : (Builtin.firstCells (szT P e) 0 (.slice a 0 0)).run P (drewW E.w) = .ok #[] (drewW E.w) := by
          cases a <;> simp [Builtin.firstCells, loadCells, loadCellsFrom]
        have hmk := CellsAt.mk_replicate (szT P e) m v hsz
        obtain ⟨n1, n2, n3⟩ := new_priv D2 (#[] ++ Builtin.zeroCells v.cells m ++ Builtin.zeroCells v.cells (cap - m)) e (List.replicate m (ofVal v)) (List.replicate m v) cap false true
          (repL_replicate _ (rep_ofVal v)) (by
            intro j w hj
            obtain ⟨q1, q2⟩ := hmk j w hj
            refine ⟨q1, fun l x hl => ?_⟩
            have q3 := q2 l x hl
            have hlt : 0 + j * szT P e + l < (Builtin.zeroCells v.cells m).size := by
              rcases Nat.lt_or_ge (0 + j * szT P e + l) (Builtin.zeroCells v.cells m).size with h | h
              · exact h
              · have : (Builtin.zeroCells v.cells m)[0 + j * szT P e + l]? = some x := by rw [← q3]; simp [Builtin.zeroCells, hsz]
                rw [Array.getElem?_eq_none h] at this; cases this
            rw [Array.empty_append, Array.getElem?_append_left hlt, ← q3]
            simp [Builtin.zeroCells, hsz])
          (fun x hx => by rw [List.eq_of_mem_replicate hx]; exact he) (by simpa using hcap) (by simp) (by
            simp only [Array.empty_append, Array.size_append, Builtin.zeroCells, Array.size_map, Array.size_range, hsz]
            rw [← Nat.add_mul]; exact Nat.mul_le_mul_right _ (by omega))
        refine ⟨⟨pushW (drewW E.w) (.cells (#[] ++ Builtin.zeroCells v.cells m ++ Builtin.zeroCells v.cells (cap - m)) e (0, 0)), E.I, upd E.m E.nx ⟨E.w.heap.size, 0, cap⟩, upd E.h E.nx ⟨e, List.replicate m (ofVal v), false, true, true⟩, E.nx + 1⟩, .slice (some ⟨E.w.heap.size, 0, none⟩) m cap, ?_, ?_, D1.trans n1, n2, D3.trans hE n3, ?_, ?_⟩
        · simp [St.new, hh, hnx]
        · simp [St.new, hnx]
        · simp only [Builtin.append_, List.getElem?_toArray, List.getElem?_cons_zero, List.getElem?_cons_succ, Sem.run_bind, run_underlying (elT_und ht), run_underlying hu, Result.andThen_ok, run_sizeOf hi, Sem.run_pure, if_true, asInt, asIntOf, hw64, h5, if_false, run_typeInfo hi, h6, Int.toNat_natCast, Nat.zero_add, h8, Bool.not_true, Bool.false_eq_true, h7]
          simp only [h1, false_and, if_false, run_typeInfo hi, h2, if_true, hch, hroom, hfst, run_zero hv, Sem.run_bind, Result.andThen_ok, Sem.run_pure, run_newRow]
          rfl
        · rw [hnx]; exact rep_ref_mk (Nat.lt_succ_self _) (by simp [upd]) (by simp [upd]) (Nat.le_refl _)
      · cases h
    · cases h
  · cases h
theorem copy_sound {P : Program} {E : Env} {st st' : St} {t u e ty : Nat} {s ax z : AV} {ys : List AV} {us ux : Value} (hE : Ok P E) (hh : st.h = E.h) (hnx : st.nx = E.nx)
    (ht : elT P t = some e) (hu : elT P u = some e) (hzok : zokT P e = true) (hw : winA st e (cutA s ax) = some ys) (h : copyA P st e s ys = some (z, st')) (hs : rep P E s us) (hx : rep P E ax ux) :
    st'.fr = st.fr ∧ Does P E (Builtin.copy_ #[t, u] ty #[us, ux]) z st'.h st'.nx := by
  unfold copyA at h
  split at h
  · rename_i id n off len
    split at h
    · rename_i hc
      obtain ⟨⟨z1, st1⟩, ha, h⟩ := Option.bind_eq_some_iff.1 h
      split at h
      · rename_i hlv
        simp only [Option.some.injEq, Prod.mk.injEq] at h
        obtain ⟨rfl, rfl⟩ := h
        obtain ⟨hlv, hn⟩ := hlv
        rw [hh] at hlv hn
        simp only [rep] at hs
        obtain ⟨hid, hnl, ad, k, rfl, hs⟩ := hs
        obtain ⟨_, hk, hkad⟩ := hs hlv hn
        have hle := (hE.blk id hlv).le
        have hs0 : rep P E (.ref id n off 0) (.slice (some ad) 0 k) := by
          simp only [rep]
          exact ⟨hid, hnl, ad, k, rfl, fun _ _ => ⟨by omega, hk, hkad⟩⟩
        obtain ⟨ux', hx', hcut⟩ : ∃ ux', rep P E (cutA (.ref id n off len) ax) ux' ∧ ∀ xa m xk, ux' = .slice xa m xk → m ≤ len → ∃ xa0 l k0, ux = .slice xa0 l k0 ∧ Nat.min l len = m ∧
            ∀ cs, (Builtin.firstCells (szT P e) m (.slice xa m xk)).run P E.w = .ok cs E.w → (Builtin.firstCells (szT P e) m (.slice xa0 l k0)).run P E.w = .ok cs E.w := by
          have same : cutA (.ref id n off len) ax = ax → ∃ ux', rep P E (cutA (.ref id n off len) ax) ux' ∧ ∀ xa m xk, ux' = .slice xa m xk → m ≤ len → ∃ xa0 l k0, ux = .slice xa0 l k0 ∧ Nat.min l len = m ∧
              ∀ cs, (Builtin.firstCells (szT P e) m (.slice xa m xk)).run P E.w = .ok cs E.w → (Builtin.firstCells (szT P e) m (.slice xa0 l k0)).run P E.w = .ok cs E.w := fun hsame =>
            ⟨ux, by rw [hsame]; exact hx, fun xa m xk he hm => ⟨xa, m, xk, he, Nat.min_eq_left hm, fun _ h => h⟩⟩
          cases ax with
          | ref id2 n2 off2 len2 =>
            by_cases hlen : len2 ≤ len
            · exact same (by simp [cutA, hlen])
            · simp only [rep] at hx
              obtain ⟨hid2, hnl2, ad2, k2, rfl, hx⟩ := hx
              refine ⟨.slice (some ad2) len k2, ?_, fun xa m xk he hm => ?_⟩
              · simp only [cutA, if_neg hlen, rep]
                exact ⟨hid2, hnl2, ad2, k2, rfl, fun q1 q2 => ⟨by have := (hx q1 q2).1; omega, (hx q1 q2).2⟩⟩
              · injection he with e1 e2 e3
                subst e1; subst e2; subst e3
                exact ⟨_, len2, _, rfl, Nat.min_eq_right (by omega), fun _ h => h⟩
          | sl t' xs' sp' ex' =>
            cases len with
            | succ l => exact same (by simp [cutA])
            | zero =>
              simp only [rep] at hx
              obtain ⟨a2, k2, rfl, _⟩ := hx
              refine ⟨.slice none 0 0, by simp [cutA, rep], fun xa m xk he hm => ?_⟩
              injection he with e1 e2 e3
              subst e1; subst e2; subst e3
              refine ⟨a2, xs'.length, k2, rfl, Nat.min_eq_right (Nat.zero_le _), fun cs h => ?_⟩
              rw [← h]
              cases a2 <;> simp [Builtin.firstCells, loadCells, loadCellsFrom]
          | _ => exact same rfl
        obtain ⟨g1, E', r, g2, g3, g4, g5, g6, g7, g8⟩ := append_sound (ty := ty) hE hh hnx ht hu hzok hw ha hs0 hx'
        refine ⟨g1, E', .int .i64 ys.length, g2, g3, g4, g5, g6, ?_, by simp [rep]⟩
        obtain ⟨zv, hzv, hzs⟩ := zokT_val hzok
        obtain ⟨i, hi⟩ := Option.isSome_iff_exists.1 (info_of_zero hzv)
        obtain ⟨L, xa, xk, rfl, hL, hLs, hLe, hfirst⟩ := win_sound hE hh hw hx'
        obtain ⟨xa0, l0, k0, rfl, hmin, hf2⟩ := hcut xa _ xk rfl hc.2
        have hfirst2 := hf2 _ hfirst
        have hin : 0 + ys.length ≤ k := by omega
        have e0 : ad.add (0 * szT P e) = ad := by simp [Addr.add]
        simp only [Builtin.append_, List.getElem?_toArray, List.getElem?_cons_zero, List.getElem?_cons_succ, Sem.run_bind, run_underlying (elT_und ht), run_underlying (elT_und hu), Result.andThen_ok, run_sizeOf hi, Sem.run_pure, Builtin.lenOf, Bool.false_eq_true, if_false, hin, if_true, Bool.not_false] at g7
        rw [hfirst] at g7
        simp only [Result.andThen_ok, Sem.run_bind, e0] at g7
        have hst : (storeCells ad (flat L)).run P E.w = .ok () E'.w := by
          revert g7
          cases (storeCells ad (flat L)).run P E.w <;> simp
        simp only [Builtin.copy_, List.getElem?_toArray, List.getElem?_cons_zero, List.getElem?_cons_succ, Sem.run_bind, run_underlying (elT_und ht), Result.andThen_ok, run_sizeOf hi, Sem.run_pure, Builtin.lenOf, hmin]
        rw [hfirst2]
        simp only [Result.andThen_ok, Sem.run_bind, hst]
        rfl
      · cases h
    · cases h
  · cases h
theorem bytesOf_ints : ∀ {ys : List AV} {s : List UInt8}, bytesOf ys = some s → ∃ ns : List Int, ys = ns.map (AV.int .u8) ∧ s = ns.map fun n => UInt8.ofNat n.toNat
 | [], s, h => by cases h; exact ⟨[], rfl, rfl⟩
 | y :: ys, s, h => by
  cases y with
  | int k n =>
   cases k with
   | u8 =>
    simp only [bytesOf, Option.map_eq_some_iff] at h
    obtain ⟨s', h1, rfl⟩ := h
    obtain ⟨ns, rfl, rfl⟩ := bytesOf_ints h1
    exact ⟨n :: ns, rfl, rfl⟩
   | _ => simp [bytesOf] at h
  | _ => simp [bytesOf] at h
theorem repL_ints {P : Program} {E : Env} {k : IntKind} : ∀ {ns : List Int} {vs : List Value}, repL P E (ns.map (AV.int k)) vs → vs = ns.map (Value.int k)
 | [], vs, h => by simpa [repL] using h
 | n :: ns, vs, h => by
  simp only [List.map_cons, repL] at h
  obtain ⟨v, us, rfl, h1, h2⟩ := h
  rw [rep_int h1, repL_ints h2]; rfl
theorem flat_ints {k : IntKind} : ∀ ns : List Int, flat (ns.map (Value.int k)) = ns.map (Value.int k)
 | [] => rfl
 | n :: ns => by
  have := flat_ints (k := k) ns
  simp only [flat, List.map_cons, List.flatMap_cons] at this ⊢
  rw [this]; rfl
theorem u8T_und {P : Program} {t : Nat} (h : u8T P t = true) : P.underlying t = some (.int .u8) ∧ szT P t = 1 := by
  simp only [u8T, Bool.and_eq_true, beq_iff_eq] at h
  refine ⟨?_, h.2⟩
  have h1 := h.1
  split at h1
  · assumption
  · cases h1
theorem conA_sound {P : Program} {E : Env} {st : St} {src dst : TypeId} {ax z : AV} {u : Value} (hE : Ok P E) (hh : st.h = E.h) (hs : (P.underlying src).isSome) (h : conA P st src dst ax = some z) (hx : rep P E ax u) :
    ∃ r, (convert src dst u).run P E.w = .ok r E.w ∧ rep P E z r := by
  unfold conA at h
  split at h
  · split at h
    · rename_i hst
      obtain ⟨e, he, h⟩ := Option.bind_eq_some_iff.1 h
      split at h
      · rename_i h8
        obtain ⟨ys, hw, h⟩ := Option.bind_eq_some_iff.1 h
        obtain ⟨s, hb, rfl⟩ := Option.map_eq_some_iff.1 h
        obtain ⟨L, a, k, rfl, hL, _, _, hf⟩ := win_sound hE hh hw hx
        obtain ⟨ns, rfl, rfl⟩ := bytesOf_ints hb
        obtain ⟨hu, hz⟩ := u8T_und h8
        have hLn := repL_ints hL
        subst hLn
        rw [flat_ints, hz] at hf
        refine ⟨.string ⟨(ns.map fun n => UInt8.ofNat n.toNat).toArray⟩, ?_, by simp [rep]⟩
        rw [run_convert_bytes_string E.w src dst e a _ k (elT_und he) hu (strT_und hst)]
        cases a with
        | none =>
          have hn : ns = [] := by
            have hf' : (.ok #[] E.w : Result (Array Value)) = .ok (ns.map (Value.int .u8)).toArray E.w := hf
            injection hf' with h1 _
            have h2 := congrArg Array.size h1
            simp at h2
            exact List.length_eq_zero_iff.1 h2.symm
          subst hn
          simp [Conv.bytesToString, Sem.run_pure]
          rfl
        | some a =>
          rw [run_bytesToString E.w a _ k ns (by simpa [Builtin.firstCells] using hf), foldl_push_bytes]
          simp [ByteArray.empty, ByteArray.emptyWithCapacity]
          rfl
      · cases h
    · cases h
  · exact conv_sound hs h hx
theorem foldl_set : ∀ (l : List Value) (A : Array Value) (off k : Nat), off + k + l.length ≤ A.size →
    ((l.zipIdx k).foldl (fun cs (p : Value × Nat) => cs.setIfInBounds (off + p.2) p.1) A).toList = A.toList.take (off + k) ++ l ++ A.toList.drop (off + k + l.length)
  | [], A, off, k, _ => by simp
  | v :: l, A, off, k, h => by
    simp only [List.length_cons] at h
    rw [List.zipIdx_cons, List.foldl_cons, foldl_set l _ off (k + 1) (by simp; omega)]
    apply List.ext_getElem?
    intro p
    have hA : A.toList.length = A.size := by simp
    have h1 := splice_get (l := (A.setIfInBounds (off + k) v).toList) (ns := l) (o := off + (k + 1)) (by simp; omega) p
    have h2 := splice_get (l := A.toList) (ns := v :: l) (o := off + k) (by simp; omega) p
    rw [h1, h2]
    simp only [List.length_cons, Array.toList_setIfInBounds]
    by_cases c1 : p < off + k
    · rw [if_pos (by omega), if_pos c1, List.getElem?_set, if_neg (by omega)]
    · rw [if_neg c1]
      by_cases c2 : p = off + k
      · subst c2
        rw [if_pos (by omega), if_pos (by omega), List.getElem?_set, if_pos rfl, if_pos (by omega)]
        simp
      · rw [if_neg (by omega)]
        by_cases c3 : p < off + (k + 1) + l.length
        · rw [if_pos c3, if_pos (by omega)]
          rw [show p - (off + k) = (p - (off + (k + 1))) + 1 by omega, List.getElem?_cons_succ]
        · rw [if_neg c3, if_neg (by omega), List.getElem?_set, if_neg (by omega)]
theorem fill_step {place : Nat → Option (Nat × Nat)} {cells : Array Value} {i off size : Nat} {v : Value} {rest : List (Nat × Value)} (hp : place i = some (off, size)) (hv : v.cells.size = size) (hle : off + size ≤ cells.size) :
  Instr.fill place cells ((i, v) :: rest) = Instr.fill place (cells.toList.take off ++ v.cells.toList ++ cells.toList.drop (off + size)).toArray rest := by
 simp only [Instr.fill, hp]
 rw [if_neg (by simp [hv]; omega)]
 congr 1
 have h := foldl_set v.cells.toList cells off 0 (by simp [hv]; omega)
 apply Array.ext'
 rw [← Array.foldl_toList, Array.toList_zipIdx]
 simp only [Nat.add_zero, Array.length_toList, hv] at h
 exact h
theorem fillA_sound {P : Program} {E : Env} {t : Nat} {fs : Array Field} (ht : P.underlying t = some (.struct fs)) : ∀ (parts : List (Nat × AV)) (vals : List (Nat × Value)) (cs cs' : List AV) (vs : List Value),
    fillA P t cs parts = some cs' → repL P E cs vs → parts.length = vals.length → (∀ (k : Nat) (p : Nat × AV) (q : Nat × Value), parts[k]? = some p → vals[k]? = some q → p.1 = q.1 ∧ rep P E p.2 q.2) →
    ∃ vs', Instr.fill ((fs.map fun f => (f.offset, szT P f.type))[·]?) vs.toArray vals = some vs'.toArray ∧ repL P E cs' vs'
  | [], vals, cs, cs', vs, h, hr, hl, _ => by
    cases vals with
    | nil => simp only [fillA, Option.some.injEq] at h; subst h; exact ⟨vs, rfl, hr⟩
    | cons _ _ => simp at hl
  | (i, x) :: parts, vals, cs, cs', vs, h, hr, hl, hp => by
    cases vals with
    | nil => simp at hl
    | cons q vals =>
      obtain ⟨hi, hx⟩ := hp 0 _ _ rfl rfl
      obtain ⟨j, v⟩ := q
      simp only at hi hx
      subst hi
      simp only [fillA] at h
      split at h
      · rename_i off u hf
        split at h
        · rename_i hc
          have hvs := el_size hx hc.1
          have hxl := rep_cells hx (by rw [el_len hc.1, hvs])
          have hf' : (fs.map fun f => (f.offset, szT P f.type))[i]? = some (off, szT P u) := by
            simp only [fieldOff, ht] at hf
            rw [Array.getElem?_map]
            cases hfi : fs[i]? with
            | none => rw [hfi] at hf; simp at hf
            | some f => rw [hfi] at hf; simp only [Option.map_some, Option.some.injEq, Prod.mk.injEq] at hf ⊢; obtain ⟨rfl, rfl⟩ := hf; exact ⟨rfl, rfl⟩
          have hle : off + szT P u ≤ vs.toArray.size := by simp [repL_length hr]; exact hc.2
          rw [fill_step hf' hvs hle]
          have hset : setCells cs off x.cells = cs.take off ++ x.cells ++ cs.drop (off + szT P u) := by
            rw [setCells_eq _ _ _ (by rw [el_len hc.1]; exact hc.2), el_len hc.1]
          refine fillA_sound ht parts vals _ cs' _ h ?_ (by simpa using hl) fun k p q h1 h2 => hp (k + 1) p q (by simpa using h1) (by simpa using h2)
          rw [hset]
          exact repL_append (repL_append (repL_take hr off) hxl) (repL_drop hr _)
        · cases h
      · cases h
theorem run_places {P : Program} {w : World} : ∀ (fs : List Field), (∀ f ∈ fs, (P.info? f.type).isSome) → (fs.mapM fun f => do pure (f.offset, ← sizeOf f.type) : Sem (List (Nat × Nat))).run P w = .ok (fs.map fun f => (f.offset, szT P f.type)) w
 | [], _ => by simp
 | f :: fs, h => by
  simp only [List.mapM_cons, Sem.run_bind, run_szT (h f (by simp)), Result.andThen_ok, Sem.run_pure, run_places fs (fun g hg => h g (by simp [hg])), List.map_cons]
theorem build_sound {P : Program} {E : Env} {t : Nat} {cs cs' : List AV} {parts : List (Nat × AV)} {vals : Array (Nat × Value)} (hin : infosT P t = true) (hz : zeroA P t = some (.agg cs)) (h : fillA P t cs parts = some cs')
    (hl : parts.length = vals.size) (hp : ∀ (k : Nat) (p : Nat × AV) (q : Nat × Value), parts[k]? = some p → vals[k]? = some q → p.1 = q.1 ∧ rep P E p.2 q.2) :
    ∃ r, (Instr.build t vals).run P E.w = .ok r E.w ∧ rep P E (.agg cs') r := by
  unfold infosT at hin
  split at hin
  · rename_i fs ht
    obtain ⟨v, hv, hzv⟩ := zeroA_val hz
    have hr : rep P E (.agg cs) v := by rw [hzv]; exact rep_ofVal v
    simp only [rep] at hr
    obtain ⟨vs, rfl, hvs⟩ := hr
    obtain ⟨vs', h1, h2⟩ := fillA_sound ht parts vals.toList cs cs' vs h hvs (by simpa using hl) (fun k p q h1 h2 => hp k p q h1 (by simpa using h2))
    refine ⟨.agg vs'.toArray, ?_, by simp only [rep]; exact ⟨vs', rfl, h2⟩⟩
    have hpl := run_places (P := P) (w := E.w) fs.toList (fun f hf => by
      have := List.all_eq_true.1 hin f hf; simpa using this)
    have hpl' : (fs.mapM fun f => do pure (f.offset, ← sizeOf f.type) : Sem (Array (Nat × Nat))).run P E.w = .ok (fs.map fun f => (f.offset, szT P f.type)) E.w := by
      rw [Array.mapM_eq_mapM_toList]
      simp only [Sem.run_map, hpl, Result.andThen_ok]
      congr 1
      apply Array.ext'; simp
    simp only [Instr.build, Sem.run_bind, run_zero hv, run_underlying ht, Result.andThen_ok, Sem.run_map, Sem.run_pure, hpl']
    simp only [Value.cells, h1, Sem.run_pure]
  · cases hin
theorem partsA_sound {P : Program} {E : Env} {S : Nat} : ∀ (i : Nat) (parts : List (Nat × AV)) (vals : List (Nat × Value)) (xs : List AV) (A : List Value), partsA i parts = some xs → parts.length = vals.length →
    (∀ (k : Nat) (p : Nat × AV) (q : Nat × Value), parts[k]? = some p → vals[k]? = some q → p.1 = q.1 ∧ rep P E p.2 q.2 ∧ q.2.cells.size = S) → (i + parts.length) * S ≤ A.length →
    ∃ L, repL P E xs L ∧ (∀ v ∈ L, v.cells.size = S) ∧ Instr.fill (fun i => some (i * S, S)) A.toArray vals = some (A.take (i * S) ++ flat L ++ A.drop ((i + parts.length) * S)).toArray
  | i, [], vals, xs, A, h, hl, _, _ => by
    cases vals with
    | nil => simp only [partsA, Option.some.injEq] at h; subst h; exact ⟨[], by simp [repL], by simp, by simp [Instr.fill, flat]⟩
    | cons _ _ => simp at hl
  | i, (j, x) :: parts, vals, xs, A, h, hl, hp, hA => by
    cases vals with
    | nil => simp at hl
    | cons q vals =>
      obtain ⟨hi, hx, hS⟩ := hp 0 _ _ rfl rfl
      obtain ⟨j', v⟩ := q
      simp only at hi hx hS
      subst hi
      simp only [partsA] at h
      split at h
      · rename_i hij
        subst hij
        simp only [Option.map_eq_some_iff] at h
        obtain ⟨ys, hys, rfl⟩ := h
        simp only [List.length_cons] at hA hl
        have hA' : (i + (parts.length + 1)) * S = i * S + S + parts.length * S := by rw [Nat.add_mul, Nat.add_mul]; omega
        rw [hA'] at hA
        have hsl := splice_length (l := A) (ns := v.cells.toList) (o := i * S) (by simp [hS]; omega)
        simp only [Array.length_toList, hS] at hsl
        obtain ⟨L, h1, h2, h3⟩ := partsA_sound (i + 1) parts vals ys (A.take (i * S) ++ v.cells.toList ++ A.drop (i * S + S)) hys (by omega) (fun k p q g1 g2 => hp (k + 1) p q (by simpa using g1) (by simpa using g2))
          (by rw [hsl, Nat.add_mul, Nat.add_mul]; omega)
        refine ⟨v :: L, by simp only [repL]; exact ⟨v, L, rfl, hx, h1⟩, fun u hu => ?_, ?_⟩
        · rcases List.mem_cons.1 hu with rfl | hu
          · exact hS
          · exact h2 u hu
        · rw [fill_step rfl hS (by simp; omega)]
          simp only
          rw [h3]
          congr 2
          have e1 : (i + 1) * S = i * S + S := by rw [Nat.add_mul]; omega
          have e2 : (i + 1 + parts.length) * S = i * S + S + parts.length * S := by rw [Nat.add_mul, Nat.add_mul]; omega
          have hvl : v.cells.toList.length = S := by simpa using hS
          have htk : (A.take (i * S)).length = i * S := by rw [List.length_take]; omega
          have d1 : (A.take (i * S) ++ v.cells.toList ++ A.drop (i * S + S)).take (i * S + S) = A.take (i * S) ++ v.cells.toList := by
            rw [List.take_append_of_le_length (by rw [List.length_append]; omega), List.take_of_length_le (by rw [List.length_append]; omega)]
          have d2 : (A.take (i * S) ++ v.cells.toList ++ A.drop (i * S + S)).drop (i * S + S + parts.length * S) = A.drop (i * S + S + parts.length * S) := by
            rw [List.drop_append, List.drop_eq_nil_of_le (by rw [List.length_append]; omega), List.nil_append, List.drop_drop, List.length_append]
            congr 1; omega
          rw [e1, e2, d1, d2, List.length_cons, hA']
          simp [flat]
      · cases h
theorem buildSlice_sound {P : Program} {E : Env} {t e len : Nat} {parts : List (Nat × AV)} {vals : Array (Nat × Value)} {xs : List AV} (hE : Ok P E) (ht : elT P t = some e) (hlim : len * szT P e ≤ 16777216) (hzok : zokT P e = true)
    (h : partsA 0 parts = some xs) (hxs : xs.length = len) (hel : ∀ x ∈ xs, x.el P e = true) (hl : parts.length = vals.size)
    (hp : ∀ (k : Nat) (p : Nat × AV) (q : Nat × Value), parts[k]? = some p → vals[k]? = some q → p.1 = q.1 ∧ rep P E p.2 q.2) :
    Does P E (Instr.buildSlice t len vals) (.sl e xs [] true) E.h E.nx := by
  obtain ⟨zv, hzv, hzs⟩ := zokT_val hzok
  obtain ⟨i, hi⟩ := Option.isSome_iff_exists.1 (info_of_zero hzv)
  have hmem : ∀ (i : Nat) (parts : List (Nat × AV)) (xs : List AV), partsA i parts = some xs → xs = parts.map (·.2) := by
    intro i parts
    induction parts generalizing i with
    | nil => intro xs h; simp only [partsA, Option.some.injEq] at h; simp [← h]
    | cons p parts ih =>
      intro xs h
      obtain ⟨j, x⟩ := p
      simp only [partsA] at h
      split at h
      · simp only [Option.map_eq_some_iff] at h
        obtain ⟨ys, hys, rfl⟩ := h
        simp [ih _ _ hys]
      · cases h
  have hx := hmem 0 parts xs h
  obtain ⟨A, hA⟩ : ∃ A : List Value, A.toArray = (if len * szT P e = 0 then (Array.range (len * szT P e)).map ((#[] : Array Value)[· % 0]!) else (Array.range (len * szT P e)).map (zv.cells[· % zv.cells.size]!)) := ⟨_, Array.toArray_toList⟩
  have hAl : A.length = len * szT P e := by
    have : A.toArray.size = len * szT P e := by rw [hA]; split <;> simp
    simpa using this
  have hpl : parts.length = len := by rw [← hxs, hx]; simp
  obtain ⟨L, h1, h2, h3⟩ := partsA_sound (P := P) (E := E) (S := szT P e) 0 parts vals.toList xs A h (by simpa using hl) (fun k p q g1 g2 => by
      obtain ⟨a, b⟩ := hp k p q g1 (by simpa using g2)
      refine ⟨a, b, el_size b (hel _ ?_)⟩
      rw [hx]; exact List.mem_map_of_mem (List.mem_of_getElem? g1)) (by rw [Nat.zero_add, hpl, hAl]; exact Nat.le_refl _)
  have hfl : A.take (0 * szT P e) ++ flat L ++ A.drop ((0 + parts.length) * szT P e) = flat L := by
    rw [Nat.zero_add, hpl, ← hAl, List.drop_length]; simp
  rw [hfl] at h3
  obtain ⟨n1, n2, n3⟩ := new_imm hE (.cells (flat L).toArray e (0, 0))
  refine ⟨_, .slice (some ⟨E.w.heap.size, 0, none⟩) len len, ?_, ?_, n1, n2, n3, ?_, ?_⟩
  · rfl
  · rfl
  · have hcells : Instr.fill (fun i => some (i * szT P e, szT P e)) (if len * szT P e = 0 then (Array.range (len * szT P e)).map ((#[] : Array Value)[· % 0]!) else (Array.range (len * szT P e)).map (zv.cells[· % zv.cells.size]!)) vals.toList = some (flat L).toArray := by
      rw [← hA]; exact h3
    simp only [Instr.buildSlice, Sem.run_bind, run_underlying (elT_und ht), Result.andThen_ok, run_sizeOf hi]
    rw [if_neg (by omega)]
    by_cases h0 : len * szT P e = 0
    · rw [if_pos h0] at hcells
      simp only [h0] at hcells ⊢
      simp only [if_true, Sem.run_bind, Sem.run_pure, Result.andThen_ok]
      have hc' : Instr.fill (fun i => some (i * szT P e, szT P e)) ((Array.range 0).map ((#[] : Array Value)[· % (#[] : Array Value).size]!)) vals.toList = some (flat L).toArray := hcells
      rw [hc']
      simp [run_newRow]
    · rw [if_neg h0] at hcells
      simp only [h0, if_false, Sem.run_bind, run_zero hzv, Result.andThen_ok, Sem.run_pure, hcells, run_newRow]
  · simp only [rep]
    refine ⟨_, len, by rw [hxs], by simp [hxs], fun _ => by simp [hxs], by simpa using hel, L, [], repL_mono n1 _ _ h1, by simp [repL], fun _ => ⟨E.w.heap.size, 0, (flat L).toArray, (e, (0, 0)), rfl, .inr rfl, pushW_new, ?_⟩⟩
    rw [List.append_nil]
    exact CellsAt.mk_flat _ L h2
theorem buildEmpty_sound {P : Program} {E : Env} {t e : Nat} (hE : Ok P E) (ht : elT P t = some e) (hzok : zokT P e = true) :
    Does P E (Instr.buildSlice t 0 #[]) (.ref E.nx 0 0 0) (upd E.h E.nx ⟨e, [], true, true, true⟩) (E.nx + 1) := by
  obtain ⟨zv, hzv, hzs⟩ := zokT_val hzok
  obtain ⟨i, hi⟩ := Option.isSome_iff_exists.1 (info_of_zero hzv)
  obtain ⟨n1, n2, n3⟩ := new_priv hE #[] e [] [] 0 true true (by simp [repL]) (by intro i v h; simp at h) (by simp) (Nat.le_refl _) (fun _ => rfl) (by simp)
  refine ⟨_, .slice (some ⟨E.w.heap.size, 0, none⟩) 0 0, ?_, ?_, n1, n2, n3, ?_, rep_ref_mk (by simp) (by simp [upd]) (by simp [upd]) (Nat.le_refl _)⟩
  · rfl
  · rfl
  · simp only [Instr.buildSlice, Sem.run_bind, run_underlying (elT_und ht), Result.andThen_ok, run_sizeOf hi, Nat.zero_mul]
    simp [Instr.fill, run_newRow, Array.range]
def OpDoes (P : Program) (E : Env) (st' : St) (s : Sem Next) (x : AV) : Prop :=
 ∃ E' n u, E'.h = st'.h ∧ E'.nx = st'.nx ∧ E.Le E' ∧ Ok P E' ∧ Goes P E E' ∧ s.run P E.w = .ok n E'.w ∧ (n = .value u ∨ (n = .skip ∧ u = undef)) ∧ rep P E' x u
theorem OpDoes.of_does {P : Program} {E : Env} {st' : St} {s : Sem Value} {x : AV} (h : Does P E s x st'.h st'.nx) : OpDoes P E st' (do pure (.value (← s))) x := by
 obtain ⟨E', r, h1, h2, h3, h4, h5, h6, h7⟩ := h
 exact ⟨E', .value r, r, h1, h2, h3, h4, h5, by simp [h6], .inl rfl, h7⟩
theorem OpDoes.same {P : Program} {E : Env} {st : St} {s : Sem Value} {x : AV} (hE : Ok P E) (hh : st.h = E.h) (hnx : st.nx = E.nx) (h : ∃ r, s.run P E.w = .ok r E.w ∧ rep P E x r) : OpDoes P E st (do pure (.value (← s))) x :=
 .of_does (by rw [hh, hnx]; exact Does.same hE h)
theorem parts_zip {P : Program} {E : Env} {st : St} {a : Act} (hf : ∀ t, rep P E (st.fr t) (a.tmps.getD t undef)) (parts : Array (Nat × Operand)) :
  (parts.toList.map fun p => (p.1, st.ev p.2)).length = (parts.map fun (i, x) => (i, a.eval x)).size ∧
  ∀ (k : Nat) (p : Nat × AV) (q : Nat × Value), (parts.toList.map fun p => (p.1, st.ev p.2))[k]? = some p → (parts.map fun (i, x) => (i, a.eval x))[k]? = some q → p.1 = q.1 ∧ rep P E p.2 q.2 := by
 refine ⟨by simp, fun k p q h1 h2 => ?_⟩
 rw [List.getElem?_map] at h1
 rw [Array.getElem?_map] at h2
 cases hk : parts[k]? with
 | none => rw [hk] at h2; simp at h2
 | some y =>
  have : parts.toList[k]? = some y := by rw [Array.getElem?_toList]; exact hk
  rw [this] at h1; rw [hk] at h2
  simp only [Option.map_some, Option.some.injEq] at h1 h2
  subst h1; subst h2
  exact ⟨rfl, rep_ev hf y.2⟩
theorem max_sound {P : Program} {w : World} {ts : Array TypeId} {ty : TypeId} {k : IntKind} {a b : Int} : (Builtin.max_ ts ty #[.int k a, .int k b]).run P w = .ok (.int k (if b > a then b else a)) w := by
 simp [Builtin.max_, Builtin.max2]
theorem min_sound {P : Program} {w : World} {ts : Array TypeId} {ty : TypeId} {k : IntKind} {a b : Int} : (Builtin.min_ ts ty #[.int k a, .int k b]).run P w = .ok (.int k (if b < a then b else a)) w := by
 simp [Builtin.min_, Builtin.min2]
theorem fieldOff_parts {P : Program} {s f off u : Nat} (h : fieldOff P s f = some (off, u)) : ∃ fs fd, P.underlying s = some (.struct fs) ∧ fs[f]? = some fd ∧ fd.offset = off ∧ fd.type = u := by
  unfold fieldOff at h
  split at h
  · rename_i fs hs
    simp only [Option.map_eq_some_iff, Prod.mk.injEq] at h
    obtain ⟨fd, h1, h2, h3⟩ := h
    exact ⟨fs, fd, hs, h1, h2, h3⟩
  · cases h
theorem run_fieldAt {P : Program} {w : World} {s f : Nat} {fs : Array Field} {fd : Field} (hfs : P.underlying s = some (.struct fs)) (hfd : fs[f]? = some fd) (hu : szT P fd.type ≠ 0) (ad : Addr) :
  (Instr.fieldAt s (.pointer (some ad)) f).run P w = .ok (.pointer (some (ad.add fd.offset))) w := by
 have hin : (P.info? fd.type).isSome := by
  unfold szT at hu
  cases hi : P.info? fd.type with
  | none => rw [hi] at hu; simp at hu
  | some i => rfl
 simp only [Instr.fieldAt, Sem.run_bind, run_underlying hfs, Result.andThen_ok, hfd, Instr.sureAddr, Sem.run_pure, fieldPlace, run_szT hin, hu, if_false]
set_option maxHeartbeats 1600000 in
theorem evalOp_sound {P : Program} {E : Env} {st st' : St} {a : Act} {o : Oper} {x : AV} (hE : Ok P E) (hh : st.h = E.h) (hnx : st.nx = E.nx) (hf : ∀ t, rep P E (st.fr t) (a.tmps.getD t undef)) (h : evalOp P st o.op = some (x, st')) :
    st'.fr = st.fr ∧ OpDoes P E st' (execOp a.eval o) x := by
  have ev := fun y => rep_ev hf y
  obtain ⟨dst, op, type, pos, after, guard⟩ := o
  unfold evalOp at h
  simp only at h
  unfold execOp
  split at h <;> simp only
  · -- move
    cases h; exact ⟨rfl, E, .value _, _, hh.symm, hnx.symm, .refl E, hE, .refl P E, rfl, .inl rfl, ev _⟩
  · -- assign
    cases h; exact ⟨rfl, E, .value _, _, hh.symm, hnx.symm, .refl E, hE, .refl P E, rfl, .inl rfl, ev _⟩
  · -- pick
    rename_i c p q
    split at h
    · rename_i t ht
      cases h
      have hc := ev c
      rw [ht] at hc
      have hc' := rep_bool hc
      refine ⟨rfl, E, .value (if t then a.eval p else a.eval q), _, hh.symm, hnx.symm, .refl E, hE, .refl P E, by simp [hc', asBool], .inl rfl, ?_⟩
      split <;> exact ev _
    · cases h
  · -- alloc
    rename_i e
    obtain ⟨z, hz, h'⟩ := Option.bind_eq_some_iff.1 h
    clear h
    have h := h'
    clear h'
    split at h
    · rename_i he
      cases h
      obtain ⟨v, hv, rfl⟩ := zeroA_val hz
      have := box_sound hE he (rep_ofVal v)
      refine ⟨rfl, .of_does ?_⟩
      obtain ⟨E', r, g1, g2, g3, g4, g5, g6, g7⟩ := this
      refine ⟨E', r, by simp [g1, St.new, hh, hnx], by simp [g2, St.new, hnx], g3, g4, g5, ?_, by simpa [hnx] using g7⟩
      simp only [Instr.alloc, Sem.run_bind, run_zero hv, Result.andThen_ok]
      simpa using g6
    · cases h
  · -- box
    rename_i e y
    split at h
    · rename_i he
      cases h
      have := box_sound hE he (ev y)
      refine ⟨rfl, .of_does ?_⟩
      obtain ⟨E', r, g1, g2, g3, g4, g5, g6, g7⟩ := this
      exact ⟨E', r, by simp [g1, St.new, hh, hnx], by simp [g2, St.new, hnx], g3, g4, g5, g6, by simpa [hnx] using g7⟩
    · cases h
  · -- build
    rename_i t parts
    split at h
    · rename_i hin
      split at h
      · rename_i cs hz
        simp only [Option.map_eq_some_iff, Prod.mk.injEq] at h
        obtain ⟨cs', hfill, rfl, rfl⟩ := h
        obtain ⟨p1, p2⟩ := parts_zip hf parts
        exact ⟨rfl, .same hE hh hnx (build_sound hin hz hfill p1 p2)⟩
      · cases h
    · cases h
  · -- buildSlice
    rename_i t len parts
    obtain ⟨e, he, h'⟩ := Option.bind_eq_some_iff.1 h
    clear h
    have h := h'
    clear h'
    split at h
    · rename_i hl
      split at h
      · rename_i h0
        obtain ⟨h0, _⟩ := h0
        subst h0
        split at h
        · rename_i hp
          cases h
          have : parts = #[] := Array.ext' (by simpa using hp)
          subst this
          obtain ⟨E', r, g1, g2, g3, g4, g5, g6, g7⟩ := buildEmpty_sound hE he hl.2
          exact ⟨rfl, .of_does ⟨E', r, by simp [g1, St.new, hh, hnx], by simp [g2, St.new, hnx], g3, g4, g5, by simpa using g6, by simpa [hnx] using g7⟩⟩
        · cases h
      · rename_i h0
        obtain ⟨xs, hxs, h'⟩ := Option.bind_eq_some_iff.1 h
        clear h
        have h := h'
        clear h'
        split at h
        · rename_i hc
          cases h
          obtain ⟨p1, p2⟩ := parts_zip hf parts
          have := buildSlice_sound hE he hl.1 hl.2 hxs hc.1 (fun x hx => List.all_eq_true.1 hc.2 x hx) p1 p2
          exact ⟨rfl, .of_does (by rw [hh, hnx]; exact this)⟩
        · cases h
    · cases h
  · -- nilCheck
    rename_i y
    split at h
    · rename_i hy
      cases h
      have h1 := ev y
      rw [hy] at h1
      have h2 := h1
      simp only [rep] at h2
      obtain ⟨_, _, ad, hv, _⟩ := h2
      exact ⟨rfl, E, .value (a.eval y), a.eval y, hh.symm, hnx.symm, .refl E, hE, .refl P E, by rw [hv]; rfl, .inl rfl, h1⟩
    · rename_i hy
      cases h
      have h1 := ev y
      rw [hy] at h1
      have h2 := h1
      simp only [rep] at h2
      obtain ⟨b, off, c, fz, u, hv, _⟩ := h2
      exact ⟨rfl, E, .value (a.eval y), a.eval y, hh.symm, hnx.symm, .refl E, hE, .refl P E, by rw [hv]; rfl, .inl rfl, h1⟩
    · cases h
  · -- load
    rename_i t y
    split at h
    · rename_i hok
      simp only [Option.map_eq_some_iff, Prod.mk.injEq] at h
      obtain ⟨z, hz, rfl, rfl⟩ := h
      exact ⟨rfl, .same hE hh hnx (load_sound hE hh hok hz (ev y))⟩
    · cases h
  · -- store
    rename_i t y z
    split at h
    · rename_i hok
      simp only [Option.map_eq_some_iff, Prod.mk.injEq] at h
      obtain ⟨s, hs, rfl, rfl⟩ := h
      obtain ⟨g1, g2, E', g3, g4, g5, g6, g7, g8⟩ := store_sound hE hh hok hs (ev y) (ev z)
      exact ⟨g1, E', .skip, undef, g3, by rw [g4, g2, hnx], g5, g6, g7, by simp [g8], .inr ⟨rfl, rfl⟩, by simp [rep]⟩
    · cases h
  · -- binOp
    rename_i op t y z zt
    split at h
    · rename_i hb
      simp only [Option.map_eq_some_iff, Prod.mk.injEq] at h
      obtain ⟨r, hr, rfl, rfl⟩ := h
      refine ⟨rfl, .same hE hh hnx (binN_sound (fun b hb' => boolT_und (hb (by rw [hb']; rfl))) hr (ev y) (ev z) (fun c hc => by rw [hc]; rfl))⟩
    · cases h
  · -- unOp
    rename_i op t y
    simp only [Option.map_eq_some_iff, Prod.mk.injEq] at h
    obtain ⟨r, hr, rfl, rfl⟩ := h
    exact ⟨rfl, .same hE hh hnx (un_sound hr (ev y))⟩
  · -- convert
    rename_i src dst y
    split at h
    · rename_i hok
      simp only [Option.map_eq_some_iff, Prod.mk.injEq] at h
      obtain ⟨r, hr, rfl, rfl⟩ := h
      obtain ⟨d, i, hd, _⟩ := okT_parts hok
      exact ⟨rfl, .same hE hh hnx (conA_sound hE hh (by simp [hd]) hr (ev y))⟩
    · cases h
  · -- makeFunc
    rename_i f first cap
    cases h
    refine ⟨rfl, .same hE hh hnx ⟨.func f (first.map a.eval) (cap.map a.eval), by simp [Instr.makeFunc], ?_⟩⟩
    simp only [rep]
    exact ⟨first.toList.map a.eval, cap.toList.map a.eval, by congr 1 <;> (apply Array.ext'; simp), repL_map hf _, repL_map hf _⟩
  · -- makeSlice
    rename_i t l c
    obtain ⟨e, he, h'⟩ := Option.bind_eq_some_iff.1 h
    clear h
    have h := h'
    clear h'
    split at h
    · rename_i k l' k' c' hl hc
      split at h
      · rename_i hcond
        obtain ⟨z, hz, h'⟩ := Option.bind_eq_some_iff.1 h
        clear h
        have h := h'
        clear h'
        split at h
        · rename_i hze
          cases h
          have hl' := ev l; rw [hl] at hl'
          have hc' := ev c; rw [hc] at hc'
          rw [rep_int hl', rep_int hc']
          obtain ⟨E', r, g1, g2, g3, g4, g5, g6, g7⟩ := make_sound (t := t) (k := k) (k' := k') hE he hz hze hcond.1 hcond.2.1 hcond.2.2.1 hcond.2.2.2
          exact ⟨rfl, .of_does ⟨E', r, by simp [g1, St.new, hh, hnx], by simp [g2, St.new, hnx], g3, g4, g5, g6, by simpa [hnx] using g7⟩⟩
        · cases h
      · cases h
    · cases h
  · -- slice
    rename_i t y lo hi mx
    simp only [Option.map_eq_some_iff, Prod.mk.injEq] at h
    obtain ⟨r, hr, rfl, rfl⟩ := h
    cases mx with
    | some m =>
      refine ⟨rfl, .same hE hh hnx (slice3_sound hE hh hr (ev y) ?_ ?_ (ev m))⟩
      · intro hx; cases lo with
        | none => rfl
        | some l => simp at hx
      · intro x hx; cases hi with
        | none => simp at hx
        | some l => simp only [Option.map_some, Option.some.injEq] at hx; subst hx; exact ⟨_, rfl, ev l⟩
    | none =>
      refine ⟨rfl, .same hE hh hnx (slice_sound hE hh hr (ev y) ?_ ?_ ?_ ?_)⟩
      · intro x hx; cases lo with
        | none => simp at hx
        | some l => simp only [Option.map_some, Option.some.injEq] at hx; subst hx; exact ⟨_, rfl, ev l⟩
      · intro hx; cases lo with
        | none => rfl
        | some l => simp at hx
      · intro x hx; cases hi with
        | none => simp at hx
        | some l => simp only [Option.map_some, Option.some.injEq] at hx; subst hx; exact ⟨_, rfl, ev l⟩
      · intro hx; cases hi with
        | none => rfl
        | some l => simp at hx
  · -- fieldAddr
    rename_i s y f
    split at h
    · rename_i off u id n i j hoff hy
      split at h
      · rename_i hu
        cases h
        have h1 := ev y; rw [hy] at h1
        simp only [rep] at h1
        obtain ⟨hid, hnl, ad, hv, had⟩ := h1
        obtain ⟨fs, fd, hfs, hfd, rfl, rfl⟩ := fieldOff_parts hoff
        refine ⟨rfl, .same hE hh hnx ⟨.pointer (some (ad.add fd.offset)), ?_, ?_⟩⟩
        · rw [hv]; exact run_fieldAt hfs hfd hu ad
        · simp only [rep]
          refine ⟨hid, hnl, _, rfl, fun g1 g2 => ?_⟩
          rw [had g1 g2, add_at, Nat.add_assoc]
      · cases h
    · rename_i off u t v j hoff hy
      split at h
      · rename_i hu
        cases h
        have h1 := ev y; rw [hy] at h1
        simp only [rep] at h1
        obtain ⟨b, o, c, fz, uu, hv, hI, hb, hr, hsz, hc⟩ := h1
        obtain ⟨fs, fd, hfs, hfd, rfl, rfl⟩ := fieldOff_parts hoff
        refine ⟨rfl, .same hE hh hnx ⟨.pointer (some ((⟨b, o + j, none⟩ : Addr).add fd.offset)), ?_, ?_⟩⟩
        · rw [hv]; exact run_fieldAt hfs hfd hu _
        · simp only [rep]
          exact ⟨b, o, c, fz, uu, by rw [add_at, Nat.add_assoc], hI, hb, hr, hsz, hc⟩
      · cases h
    · cases h
  · -- field
    rename_i t y f
    split at h
    · rename_i off u cs hoff hy
      split at h
      · rename_i hok
        simp only [Option.map_eq_some_iff, Prod.mk.injEq] at h
        obtain ⟨z, hz, rfl, rfl⟩ := h
        have h1 := ev y; rw [hy] at h1
        simp only [rep] at h1
        obtain ⟨vs, hv, hvs⟩ := h1
        obtain ⟨fs, fd, hfs, hfd, rfl, rfl⟩ := fieldOff_parts hoff
        obtain ⟨d, i, hd, hi⟩ := okT_parts hok
        obtain ⟨r, g1, g2⟩ := ldA_get (w := E.w) hd hi hz hvs
        refine ⟨rfl, .same hE hh hnx ⟨r, ?_, g2⟩⟩
        simp only [Instr.field, Sem.run_bind, run_underlying hfs, Result.andThen_ok, hfd, hv, asAgg, Sem.run_pure, g1]
      · cases h
    · cases h
  · -- indexAddr
    rename_i t y i
    simp only [Option.map_eq_some_iff, Prod.mk.injEq] at h
    obtain ⟨r, hr, rfl, rfl⟩ := h
    exact ⟨rfl, .same hE hh hnx (indexAddr_sound hE hh hr (ev y) (ev i))⟩
  · -- index
    rename_i t y i
    split at h
    · rename_i s k i' hs hi
      split at h
      · rename_i hc
        simp only [Option.map_eq_some_iff, Prod.mk.injEq] at h
        obtain ⟨b, hb, rfl, rfl⟩ := h
        have h1 := ev y; rw [hs] at h1
        have h2 := ev i; rw [hi] at h2
        exact ⟨rfl, .same hE hh hnx ⟨_, idxStr_sound (strT_und hc.1) h1 h2 hc.2.1 hb, by simp [rep]⟩⟩
      · cases h
    · cases h
  · -- extract
    rename_i t i
    split at h
    · rename_i vs hvs
      simp only [Option.map_eq_some_iff, Prod.mk.injEq] at h
      obtain ⟨z, hz, rfl, rfl⟩ := h
      have h1 := ev t; rw [hvs] at h1
      exact ⟨rfl, .same hE hh hnx (extract_sound h1 hz)⟩
    · cases h
  · -- builtins
    rename_i b as0 ts
    split at h
    · rename_i y t has hts
      have has' : as0 = #[y] := Array.ext' (by simpa using has)
      have hts' : ts = #[t] := Array.ext' (by simpa using hts)
      subst has'; subst hts'
      split at h
      · rename_i hok
        simp only [Option.map_eq_some_iff, Prod.mk.injEq] at h
        obtain ⟨n, hn, rfl, rfl⟩ := h
        refine ⟨rfl, .same hE hh hnx (s := Builtin.len_ #[t] type (#[y].map a.eval)) ⟨.int .i64 n, ?_, by simp [rep]⟩⟩
        have : #[y].map a.eval = #[a.eval y] := by simp
        rw [this]
        exact len_sound hok hn (ev y)
      · cases h
    · rename_i s y t u has hts
      have has' : as0 = #[s, y] := Array.ext' (by simpa using has)
      have hts' : ts = #[t, u] := Array.ext' (by simpa using hts)
      subst has'; subst hts'
      obtain ⟨e, he, h'⟩ := Option.bind_eq_some_iff.1 h
      clear h
      have h := h'
      clear h'
      split at h
      · rename_i ys hc
        have hc' : elT P u = some e ∧ zokT P e = true ∧ winA st e (st.ev y) = some ys := by
          revert hc
          split
          · rename_i hcc; intro h; exact ⟨hcc.1, hcc.2, h⟩
          · intro h; cases h
        obtain ⟨g1, g2⟩ := append_sound (ty := type) hE hh hnx he hc'.1 hc'.2.1 hc'.2.2 h (ev s) (ev y)
        refine ⟨g1, .of_does (s := Builtin.append_ #[t, u] type (#[s, y].map a.eval)) ?_⟩
        have : #[s, y].map a.eval = #[a.eval s, a.eval y] := by simp
        rw [this]
        exact g2
      · obtain ⟨g1, g2⟩ := appendN_sound (ty := type) hE hh hnx he h (ev s) (ev y)
        refine ⟨g1, .of_does (s := Builtin.append_ #[t, u] type (#[s, y].map a.eval)) ?_⟩
        have : #[s, y].map a.eval = #[a.eval s, a.eval y] := by simp
        rw [this]
        exact g2
    · -- cap
      rename_i y t has hts
      have has' : as0 = #[y] := Array.ext' (by simpa using has)
      have hts' : ts = #[t] := Array.ext' (by simpa using hts)
      subst has'; subst hts'
      split at h
      · rename_i e hy ht
        simp only [Option.some.injEq, Prod.mk.injEq] at h
        obtain ⟨rfl, rfl⟩ := h
        refine ⟨rfl, .same hE hh hnx (s := Builtin.cap_ #[t] type (#[y].map a.eval)) ⟨.int .i64 0, ?_, by simp [rep]⟩⟩
        have hv := ev y
        rw [hy] at hv
        simp only [rep] at hv
        obtain ⟨b, hb⟩ := hv
        have : #[y].map a.eval = #[a.eval y] := by simp
        rw [this, hb]
        simp only [Builtin.cap_, List.getElem?_toArray, List.getElem?_cons_zero, Sem.run_bind, run_underlying (elT_und ht), Result.andThen_ok, Sem.run_pure]
        rfl
      · cases h
    · rename_i s y t u has hts
      have has' : as0 = #[s, y] := Array.ext' (by simpa using has)
      have hts' : ts = #[t, u] := Array.ext' (by simpa using hts)
      subst has'; subst hts'
      obtain ⟨e, he, h'⟩ := Option.bind_eq_some_iff.1 h
      clear h
      have h := h'
      clear h'
      split at h
      · rename_i hc
        obtain ⟨ys, hys, h'⟩ := Option.bind_eq_some_iff.1 h
        obtain ⟨g1, g2⟩ := copy_sound (ty := type) hE hh hnx he hc.1 hc.2 hys h' (ev s) (ev y)
        refine ⟨g1, .of_does (s := Builtin.copy_ #[t, u] type (#[s, y].map a.eval)) ?_⟩
        have : #[s, y].map a.eval = #[a.eval s, a.eval y] := by simp
        rw [this]
        exact g2
      · cases h
    · rename_i y z has
      have has' : as0 = #[y, z] := Array.ext' (by simpa using has)
      subst has'
      split at h
      · rename_i k p k' q hp hq
        split at h
        · rename_i hk
          subst hk
          cases h
          have h1 := ev y; rw [hp] at h1
          have h2 := ev z; rw [hq] at h2
          refine ⟨rfl, .same hE hh hnx ⟨.int k (if q > p then q else p), ?_, by simp [rep]⟩⟩
          show (Builtin.max_ ts type (#[y, z].map a.eval)).run P E.w = _
          have : #[y, z].map a.eval = #[.int k p, .int k q] := by simp [rep_int h1, rep_int h2]
          rw [this]; exact max_sound
        · cases h
      · cases h
    · rename_i y z has
      have has' : as0 = #[y, z] := Array.ext' (by simpa using has)
      subst has'
      split at h
      · rename_i k p k' q hp hq
        split at h
        · rename_i hk
          subst hk
          cases h
          have h1 := ev y; rw [hp] at h1
          have h2 := ev z; rw [hq] at h2
          refine ⟨rfl, .same hE hh hnx ⟨.int k (if q < p then q else p), ?_, by simp [rep]⟩⟩
          show (Builtin.min_ ts type (#[y, z].map a.eval)).run P E.w = _
          have : #[y, z].map a.eval = #[.int k p, .int k q] := by simp [rep_int h1, rep_int h2]
          rw [this]; exact min_sound
        · cases h
      · cases h
    · cases h
  · cases h
structure OLoc where
 l : Loc
 t : Nat
 n : Nat
mutual
def ownR (P : Program) (E : Env) : AV → Value → List OLoc → Prop
 | .own t xs sp ex, v, L => ∃ l L1 L2 vs us c ad, L = ⟨l, t, xs.length + sp.length⟩ :: (L1 ++ L2) ∧ v = .slice (some ad) xs.length l.cap ∧ (l.cap ≠ 0 → ad = ⟨l.b, l.base, none⟩) ∧
   ¬ E.I l.b ∧ xs.length + sp.length ≤ l.cap ∧ (ex = true → l.cap = xs.length + sp.length) ∧ (∀ x ∈ xs ++ sp, x.el P t = true) ∧ ownRL P E xs vs L1 ∧ ownRL P E sp us L2 ∧
   E.w.heap[l.b]? = some (.cells c t (0, 0)) ∧ CellsAt c l.base (szT P t) (vs ++ us) ∧ l.base + l.cap * szT P t ≤ c.size
 | .agg cs, v, L => ∃ vs, v = .agg vs.toArray ∧ ownRL P E cs vs L
 | .tup cs, v, L => ∃ vs, v = .tuple vs.toArray ∧ ownRL P E cs vs L
 | .undef, _, L => L = []
 | .bool b, v, L => L = [] ∧ rep P E (.bool b) v
 | .int k n, v, L => L = [] ∧ rep P E (.int k n) v
 | .str s, v, L => L = [] ∧ rep P E (.str s) v
 | .nil, v, L => L = [] ∧ rep P E .nil v
 | .sl t xs sp ex, v, L => L = [] ∧ (AV.sl t xs sp ex).pure = true ∧ rep P E (.sl t xs sp ex) v
 | .cptr t x j, v, L => L = [] ∧ (AV.cptr t x j).pure = true ∧ rep P E (.cptr t x j) v
 | .fn f a b, v, L => L = [] ∧ (AV.fn f a b).pure = true ∧ rep P E (.fn f a b) v
 | .ref .., _, _ => False
 | .ptr .., _, _ => False
def ownRL (P : Program) (E : Env) : List AV → List Value → List OLoc → Prop
 | [], vs, L => vs = [] ∧ L = []
 | x :: xs, vs, L => ∃ v us L1 L2, vs = v :: us ∧ L = L1 ++ L2 ∧ ownR P E x v L1 ∧ ownRL P E xs us L2
end
mutual
theorem rep_pure {P : Program} {E E' : Env} (hI : ∀ b, E.I b → E'.I b ∧ E'.w.heap[b]? = E.w.heap[b]?) : ∀ (x : AV) (v : Value), x.pure = true → rep P E x v → rep P E' x v
 | .undef, _, _, _ => by simp [rep]
 | .bool b, v, _, h => by simpa [rep] using h
 | .int k n, v, _, h => by simpa [rep] using h
 | .str s, v, _, h => by simpa [rep] using h
 | .nil, v, _, h => by simpa [rep] using h
 | .sl t xs sp ex, v, hp, h => by
  simp only [AV.pure, Bool.and_eq_true] at hp
  simp only [rep] at h ⊢
  obtain ⟨a, cap, h1, h2, h3, h7, vs, us, h4, h5, h6⟩ := h
  refine ⟨a, cap, h1, h2, h3, h7, vs, us, repL_pure hI xs vs hp.1 h4, repL_pure hI sp us hp.2 h5, fun hne => ?_⟩
  obtain ⟨b, off, c, fz, g1, g2, g3, g4⟩ := h6 hne
  exact ⟨b, off, c, fz, g1, (hI b g2).1, by rw [(hI b g2).2]; exact g3, g4⟩
 | .ref .., _, hp, _ => by simp [AV.pure] at hp
 | .own .., _, hp, _ => by simp [AV.pure] at hp
 | .ptr .., _, hp, _ => by simp [AV.pure] at hp
 | .cptr t x j, v, hp, h => by
  simp only [AV.pure] at hp
  simp only [rep] at h ⊢
  obtain ⟨b, off, c, fz, u, h1, h2, h3, h4, h6, h5⟩ := h
  exact ⟨b, off, c, fz, u, h1, (hI b h2).1, by rw [(hI b h2).2]; exact h3, rep_pure hI x u hp h4, h6, h5⟩
 | .fn f first cap, v, hp, h => by
  simp only [AV.pure, Bool.and_eq_true] at hp
  simp only [rep] at h ⊢
  obtain ⟨vs, us, h1, h2, h3⟩ := h
  exact ⟨vs, us, h1, repL_pure hI first vs hp.1 h2, repL_pure hI cap us hp.2 h3⟩
 | .agg cs, v, hp, h => by
  simp only [AV.pure] at hp
  simp only [rep] at h ⊢
  obtain ⟨vs, h1, h2⟩ := h
  exact ⟨vs, h1, repL_pure hI cs vs hp h2⟩
 | .tup xs, v, hp, h => by
  simp only [AV.pure] at hp
  simp only [rep] at h ⊢
  obtain ⟨vs, h1, h2⟩ := h
  exact ⟨vs, h1, repL_pure hI xs vs hp h2⟩
theorem repL_pure {P : Program} {E E' : Env} (hI : ∀ b, E.I b → E'.I b ∧ E'.w.heap[b]? = E.w.heap[b]?) : ∀ (xs : List AV) (vs : List Value), AV.pureL xs = true → repL P E xs vs → repL P E' xs vs
 | [], vs, _, h => by simpa [repL] using h
 | x :: xs, vs, hp, h => by
  simp only [AV.pureL, Bool.and_eq_true] at hp
  simp only [repL] at h ⊢
  obtain ⟨v, us, h1, h2, h3⟩ := h
  exact ⟨v, us, h1, rep_pure hI x v hp.1 h2, repL_pure hI xs us hp.2 h3⟩
end
mutual
theorem ownR_move {P : Program} {E E' : Env} (hw : E'.w = E.w) (hI : E'.I = E.I) : ∀ (x : AV) (v : Value) (L : List OLoc), ownR P E x v L → ownR P E' x v L
 | .own t xs sp ex, v, L, h => by
  simp only [ownR] at h ⊢
  obtain ⟨l, L1, L2, vs, us, c, ad, h1, h2, h3, h4, h5, h6, h7, h8, h9, h10, h11⟩ := h
  exact ⟨l, L1, L2, vs, us, c, ad, h1, h2, h3, by rw [hI]; exact h4, h5, h6, h7, ownRL_move hw hI xs vs L1 h8, ownRL_move hw hI sp us L2 h9, by rw [hw]; exact h10, h11⟩
 | .agg cs, v, L, h => by simp only [ownR] at h ⊢; obtain ⟨vs, h1, h2⟩ := h; exact ⟨vs, h1, ownRL_move hw hI cs vs L h2⟩
 | .tup cs, v, L, h => by simp only [ownR] at h ⊢; obtain ⟨vs, h1, h2⟩ := h; exact ⟨vs, h1, ownRL_move hw hI cs vs L h2⟩
 | .undef, v, L, h => by simpa [ownR] using h
 | .bool b, v, L, h => by simpa [ownR, rep] using h
 | .int k n, v, L, h => by simpa [ownR, rep] using h
 | .str s, v, L, h => by simpa [ownR, rep] using h
 | .nil, v, L, h => by simpa [ownR, rep] using h
 | .sl t xs sp ex, v, L, h => by simp only [ownR] at h ⊢; exact ⟨h.1, h.2.1, rep_pure (fun b hb => ⟨by rw [hI]; exact hb, by rw [hw]⟩) _ _ h.2.1 h.2.2⟩
 | .cptr t x j, v, L, h => by simp only [ownR] at h ⊢; exact ⟨h.1, h.2.1, rep_pure (fun b hb => ⟨by rw [hI]; exact hb, by rw [hw]⟩) _ _ h.2.1 h.2.2⟩
 | .fn f a b, v, L, h => by simp only [ownR] at h ⊢; exact ⟨h.1, h.2.1, rep_pure (fun b hb => ⟨by rw [hI]; exact hb, by rw [hw]⟩) _ _ h.2.1 h.2.2⟩
 | .ref .., v, L, h => by simp [ownR] at h
 | .ptr .., v, L, h => by simp [ownR] at h
theorem ownRL_move {P : Program} {E E' : Env} (hw : E'.w = E.w) (hI : E'.I = E.I) : ∀ (xs : List AV) (vs : List Value) (L : List OLoc), ownRL P E xs vs L → ownRL P E' xs vs L
 | [], vs, L, h => by simpa [ownRL] using h
 | x :: xs, vs, L, h => by
  simp only [ownRL] at h ⊢
  obtain ⟨v, us, L1, L2, h1, h2, h3, h4⟩ := h
  exact ⟨v, us, L1, L2, h1, h2, ownR_move hw hI x v L1 h3, ownRL_move hw hI xs us L2 h4⟩
end
mutual
theorem ownR_of_pure {P : Program} {E : Env} : ∀ (x : AV) (v : Value), x.pure = true → rep P E x v → ownR P E x v []
 | .own .., _, hp, _ => by simp [AV.pure] at hp
 | .ref .., _, hp, _ => by simp [AV.pure] at hp
 | .ptr .., _, hp, _ => by simp [AV.pure] at hp
 | .agg cs, v, hp, h => by
  simp only [AV.pure] at hp; simp only [rep] at h; simp only [ownR]
  obtain ⟨vs, h1, h2⟩ := h; exact ⟨vs, h1, ownRL_of_pure cs vs hp h2⟩
 | .tup cs, v, hp, h => by
  simp only [AV.pure] at hp; simp only [rep] at h; simp only [ownR]
  obtain ⟨vs, h1, h2⟩ := h; exact ⟨vs, h1, ownRL_of_pure cs vs hp h2⟩
 | .undef, _, _, _ => by simp [ownR]
 | .bool b, v, _, h => by simp only [ownR]; exact ⟨trivial, h⟩
 | .int k n, v, _, h => by simp only [ownR]; exact ⟨trivial, h⟩
 | .str s, v, _, h => by simp only [ownR]; exact ⟨trivial, h⟩
 | .nil, v, _, h => by simp only [ownR]; exact ⟨trivial, h⟩
 | .sl t xs sp ex, v, hp, h => by simp only [ownR]; exact ⟨trivial, hp, h⟩
 | .cptr t x j, v, hp, h => by simp only [ownR]; exact ⟨trivial, hp, h⟩
 | .fn f a b, v, hp, h => by simp only [ownR]; exact ⟨trivial, hp, h⟩
theorem ownRL_of_pure {P : Program} {E : Env} : ∀ (xs : List AV) (vs : List Value), AV.pureL xs = true → repL P E xs vs → ownRL P E xs vs []
 | [], vs, _, h => by simp only [repL] at h; simp [ownRL, h]
 | x :: xs, vs, hp, h => by
  simp only [AV.pureL, Bool.and_eq_true] at hp
  simp only [repL] at h; simp only [ownRL]
  obtain ⟨v, us, h1, h2, h3⟩ := h
  exact ⟨v, us, [], [], h1, rfl, ownR_of_pure x v hp.1 h2, ownRL_of_pure xs us hp.2 h3⟩
end
mutual
theorem rep_of_ownR {P : Program} {E : Env} : ∀ (x : AV) (v : Value) (L : List OLoc), x.pure = true → ownR P E x v L → L = [] ∧ rep P E x v
 | .own .., _, _, hp, _ => by simp [AV.pure] at hp
 | .ref .., _, _, hp, _ => by simp [AV.pure] at hp
 | .ptr .., _, _, hp, _ => by simp [AV.pure] at hp
 | .agg cs, v, L, hp, h => by
  simp only [AV.pure] at hp; simp only [ownR] at h; simp only [rep]
  obtain ⟨vs, h1, h2⟩ := h
  obtain ⟨h3, h4⟩ := repL_of_ownRL cs vs L hp h2
  exact ⟨h3, vs, h1, h4⟩
 | .tup cs, v, L, hp, h => by
  simp only [AV.pure] at hp; simp only [ownR] at h; simp only [rep]
  obtain ⟨vs, h1, h2⟩ := h
  obtain ⟨h3, h4⟩ := repL_of_ownRL cs vs L hp h2
  exact ⟨h3, vs, h1, h4⟩
 | .undef, _, _, _, h => by simp only [ownR] at h; exact ⟨h, by simp [rep]⟩
 | .bool b, v, _, _, h => by simpa only [ownR] using h
 | .int k n, v, _, _, h => by simpa only [ownR] using h
 | .str s, v, _, _, h => by simpa only [ownR] using h
 | .nil, v, _, _, h => by simpa only [ownR] using h
 | .sl t xs sp ex, v, _, _, h => by simp only [ownR] at h; exact ⟨h.1, h.2.2⟩
 | .cptr t x j, v, _, _, h => by simp only [ownR] at h; exact ⟨h.1, h.2.2⟩
 | .fn f a b, v, _, _, h => by simp only [ownR] at h; exact ⟨h.1, h.2.2⟩
theorem repL_of_ownRL {P : Program} {E : Env} : ∀ (xs : List AV) (vs : List Value) (L : List OLoc), AV.pureL xs = true → ownRL P E xs vs L → L = [] ∧ repL P E xs vs
 | [], vs, L, _, h => by simp only [ownRL] at h; exact ⟨h.2, by simp [repL, h.1]⟩
 | x :: xs, vs, L, hp, h => by
  simp only [AV.pureL, Bool.and_eq_true] at hp
  simp only [ownRL] at h; simp only [repL]
  obtain ⟨v, us, L1, L2, h1, h2, h3, h4⟩ := h
  obtain ⟨e1, r1⟩ := rep_of_ownR x v L1 hp.1 h3
  obtain ⟨e2, r2⟩ := repL_of_ownRL xs us L2 hp.2 h4
  exact ⟨by rw [h2, e1, e2]; rfl, v, us, h1, r1, r2⟩
end
theorem ownRL_length {P : Program} {E : Env} : ∀ (xs : List AV) (vs : List Value) (L : List OLoc), ownRL P E xs vs L → vs.length = xs.length
 | [], vs, L, h => by simp only [ownRL] at h; simp [h.1]
 | x :: xs, vs, L, h => by
  simp only [ownRL] at h
  obtain ⟨v, us, L1, L2, rfl, _, _, h4⟩ := h
  simp [ownRL_length xs us L2 h4]
theorem matA_one (g : Bool) {x : AV} (st : St) (h : x.one = true) : (matA g x st).1.one = true := by
 cases x <;> simp_all [matA, AV.one]
theorem matL_one (g : Bool) : ∀ (xs : List AV) (st : St), (∀ x ∈ xs, x.one = true) → (∀ y ∈ (matL g xs st).1, y.one = true) ∧ (matL g xs st).1.length = xs.length
  | [], st, _ => by simp [matL]
  | x :: xs, st, h => by
    obtain ⟨h1, h2⟩ := matL_one g xs (matA g x st).2 (fun y hy => h y (by simp [hy]))
    simp only [matL]
    refine ⟨fun y hy => ?_, by simp [h2]⟩
    rcases List.mem_cons.1 hy with rfl | hy
    · exact matA_one g st (h x (by simp))
    · exact h1 y hy
theorem matA_el (g : Bool) {P : Program} {t : Nat} {x : AV} (st : St) (h : x.el P t = true) : (matA g x st).1.el P t = true := by
  have h1 := el_len h
  have h2 := el_one h
  by_cases ha : ∃ cs, x = .agg cs
  · obtain ⟨cs, rfl⟩ := ha
    simp only [AV.cells] at h1 h2
    obtain ⟨k1, k2⟩ := matL_one g cs st h2
    simp only [matA]
    unfold AV.el; rw [Bool.and_eq_true]
    exact ⟨decide_eq_true (by simpa [AV.cells, k2] using h1), List.all_eq_true.2 (by simpa [AV.cells] using k1)⟩
  · have hx : x.cells = [x] := by cases x <;> simp_all [AV.cells]
    rw [hx] at h1 h2
    have ho := matA_one g st (h2 x (by simp))
    have hm : (matA g x st).1.cells = [(matA g x st).1] := one_cells ho
    unfold AV.el; rw [Bool.and_eq_true]
    exact ⟨decide_eq_true (by rw [hm]; simpa using h1), List.all_eq_true.2 (by rw [hm]; simpa using ho)⟩
theorem matL_el (g : Bool) {P : Program} {t : Nat} : ∀ (xs : List AV) (st : St), (∀ x ∈ xs, x.el P t = true) → ∀ y ∈ (matL g xs st).1, y.el P t = true
  | [], st, _, y, hy => by simp [matL] at hy
  | x :: xs, st, h, y, hy => by
    simp only [matL] at hy
    rcases List.mem_cons.1 hy with rfl | hy
    · exact matA_el g st (h x (by simp))
    · exact matL_el g xs _ (fun z hz => h z (by simp [hz])) y hy
mutual
theorem matA_fr (g : Bool) : ∀ (x : AV) (st : St), (matA g x st).2.fr = st.fr
 | .own t xs sp ex, st => by simp only [matA, St.new]; rw [matL_fr g sp, matL_fr g xs]
 | .agg cs, st => by simp only [matA]; exact matL_fr g cs st
 | .tup vs, st => by simp only [matA]; exact matL_fr g vs st
 | .undef, _ | .bool _, _ | .int .., _ | .str _, _ | .nil, _ | .sl .., _ | .ref .., _ | .ptr .., _ | .cptr .., _ | .fn .., _ => by simp [matA]
theorem matL_fr (g : Bool) : ∀ (xs : List AV) (st : St), (matL g xs st).2.fr = st.fr
 | [], _ => by simp [matL]
 | x :: xs, st => by simp only [matL]; rw [matL_fr g xs, matA_fr g x]
end
mutual
theorem matA_live (g : Bool) : ∀ (x : AV) (st : St), st.nx ≤ (matA g x st).2.nx ∧ (∀ i, i < st.nx → (matA g x st).2.h i = st.h i) ∧ (∀ i, st.nx ≤ i → i < (matA g x st).2.nx → ((matA g x st).2.h i).lv = true)
  | .own t xs sp ex, st => by
    obtain ⟨a1, a2, a3⟩ := matL_live g xs st
    obtain ⟨b1, b2, b3⟩ := matL_live g sp (matL g xs st).2
    simp only [matA, St.new]
    refine ⟨by omega, fun i hi => ?_, fun i h1 h2 => ?_⟩
    · rw [upd, if_neg (by omega), b2 i (by omega), a2 i hi]
    · rw [upd]; split
      · rfl
      · rcases Nat.lt_or_ge i (matL g xs st).2.nx with h | h
        · rw [b2 i h]; exact a3 i h1 h
        · exact b3 i h (by omega)
  | .agg cs, st => by simp only [matA]; exact matL_live g cs st
  | .tup vs, st => by simp only [matA]; exact matL_live g vs st
  | .undef, st | .bool _, st | .int .., st | .str _, st | .nil, st | .sl .., st | .ref .., st | .ptr .., st | .cptr .., st | .fn .., st => by
    simp only [matA]; exact ⟨Nat.le_refl _, fun _ _ => trivial, fun i h1 h2 => by omega⟩
theorem matL_live (g : Bool) : ∀ (xs : List AV) (st : St), st.nx ≤ (matL g xs st).2.nx ∧ (∀ i, i < st.nx → (matL g xs st).2.h i = st.h i) ∧ (∀ i, st.nx ≤ i → i < (matL g xs st).2.nx → ((matL g xs st).2.h i).lv = true)
  | [], st => by simp only [matL]; exact ⟨Nat.le_refl _, fun _ _ => trivial, fun i h1 h2 => by omega⟩
  | x :: xs, st => by
    obtain ⟨a1, a2, a3⟩ := matA_live g x st
    obtain ⟨b1, b2, b3⟩ := matL_live g xs (matA g x st).2
    simp only [matL]
    refine ⟨by omega, fun i hi => by rw [b2 i (by omega), a2 i hi], fun i h1 h2 => ?_⟩
    rcases Nat.lt_or_ge i (matA g x st).2.nx with h | h
    · rw [b2 i h]; exact a3 i h1 h
    · exact b3 i h h2
end
structure MatOk (P : Program) (g : Bool) (E E' : Env) (L : List OLoc) : Prop where
 w : E'.w = E.w
 I : E'.I = E.I
 le : E.Le E'
 ok : Ok P E'
 old : ∀ id, id < E.nx → E'.m id = E.m id ∧ E'.h id = E.h id
 new : ∀ id, (E'.h id).lv = true → ((E.h id).lv = true ∧ E'.m id = E.m id ∧ E'.h id = E.h id) ∨
  (∃ o ∈ L, E'.m id = o.l ∧ (E'.h id).t = o.t ∧ (E'.h id).xs.length = o.n ∧ (E'.h id).gr = g)
theorem MatOk.refl {P : Program} {g : Bool} {E : Env} (hE : Ok P E) : MatOk P g E E [] := ⟨rfl, rfl, .refl E, hE, fun _ _ => ⟨rfl, rfl⟩, fun _ h => .inl ⟨h, rfl, rfl⟩⟩
theorem MatOk.trans {P : Program} {g : Bool} {A B C : Env} {L1 L2 : List OLoc} (h : MatOk P g A B L1) (k : MatOk P g B C L2) : MatOk P g A C (L1 ++ L2) :=
  ⟨k.w.trans h.w, k.I.trans h.I, h.le.trans k.le, k.ok, fun id hid => ⟨(k.old id (Nat.lt_of_lt_of_le hid h.le.nx)).1.trans (h.old id hid).1, (k.old id (Nat.lt_of_lt_of_le hid h.le.nx)).2.trans (h.old id hid).2⟩, fun id hid => by
    rcases k.new id hid with ⟨a1, a2, a3⟩ | ⟨o, ho, a⟩
    · rcases h.new id a1 with ⟨b1, b2, b3⟩ | ⟨o, ho, b1, b2, b3, b4⟩
      · exact .inl ⟨b1, a2.trans b2, a3.trans b3⟩
      · exact .inr ⟨o, List.mem_append_left _ ho, a2.trans b1, by rw [a3]; exact b2, by rw [a3]; exact b3, by rw [a3]; exact b4⟩
    · exact .inr ⟨o, List.mem_append_right _ ho, a⟩⟩
theorem add_priv {P : Program} {E : Env} (hE : Ok P E) (l : Loc) (c : Array Value) (t : Nat) (xs : List AV) (vs : List Value) (ex g : Bool) (hr : repL P E xs vs) (hc : CellsAt c l.base (szT P t) vs)
    (hcl : ∀ x ∈ xs, x.el P t = true) (hle : xs.length ≤ l.cap) (hex : ex = true → l.cap = xs.length) (hsz : l.base + l.cap * szT P t ≤ c.size) (hb : E.w.heap[l.b]? = some (.cells c t (0, 0)))
    (hI : ¬ E.I l.b) (hfree : ∀ id, (E.h id).lv = true → (E.m id).b ≠ l.b) (hg : g = true → l.base = 0) :
    MatOk P g E ⟨E.w, E.I, upd E.m E.nx l, upd E.h E.nx ⟨t, xs, ex, g, true⟩, E.nx + 1⟩ [⟨l, t, xs.length⟩] := by
  have hLe : E.Le ⟨E.w, E.I, upd E.m E.nx l, upd E.h E.nx ⟨t, xs, ex, g, true⟩, E.nx + 1⟩ := by
    refine ⟨Nat.le_succ _, fun b hb => ⟨hb, rfl⟩, fun id hid => ?_, fun id hid n _ h1 h2 => ?_⟩
    · simp [upd, Nat.ne_of_lt hid]
    · simp only [upd, Nat.ne_of_lt hid, if_false] at h1 h2 ⊢; exact ⟨h1, h2, by trivial, by trivial⟩
  refine ⟨rfl, rfl, hLe, ⟨fun id hlv => ?_, fun i j hi hj hij => ?_, hE.imm, hE.tab.le hLe⟩, fun id hid => by simp [upd, Nat.ne_of_lt hid], fun id hid => ?_⟩
  · by_cases hid : id = E.nx
    · subst hid
      refine ⟨by simp, by simpa [upd] using hg, by simpa [upd] using hex, by simpa [upd] using hle, by simpa [upd] using hcl, by simpa [upd] using hI, ⟨c, vs, by simpa [upd] using hb, ?_, by simpa [upd] using hc, by simpa [upd] using hsz⟩⟩
      simp only [upd, if_true]; exact repL_mono hLe _ _ hr
    · simp only [upd, hid, if_false] at hlv
      exact (hE.blk id hlv).move hLe (by simp [upd, hid]) (by simp [upd, hid]) rfl (hE.blk id hlv).dark
  · by_cases h1 : i = E.nx <;> by_cases h2 : j = E.nx
    · rw [h1, h2]
    · simp only [upd, h1, h2, if_true, if_false] at hi hj hij
      exact absurd hij.symm (hfree j hj)
    · simp only [upd, h1, h2, if_true, if_false] at hi hj hij
      exact absurd hij (hfree i hi)
    · simp only [upd, h1, h2, if_false] at hi hj hij
      exact hE.inj i j hi hj hij
  · by_cases h1 : id = E.nx
    · subst h1; exact .inr ⟨_, List.mem_singleton_self _, by simp [upd], by simp [upd], by simp [upd], by simp [upd]⟩
    · simp only [upd, h1, if_false] at hid; exact .inl ⟨hid, by simp [upd, h1], by simp [upd, h1]⟩
def Sep (E : Env) (L : List OLoc) : Prop := (L.map (·.l.b)).Nodup ∧ ∀ o ∈ L, ∀ id, (E.h id).lv = true → (E.m id).b ≠ o.l.b
theorem Sep.left {E : Env} {A B : List OLoc} (h : Sep E (A ++ B)) : Sep E A := by
 obtain ⟨h1, h2⟩ := h
 rw [List.map_append, List.nodup_append] at h1
 exact ⟨h1.1, fun o ho => h2 o (List.mem_append_left _ ho)⟩
theorem Sep.right {P : Program} {g : Bool} {E E' : Env} {A B : List OLoc} (h : Sep E (A ++ B)) (hm : MatOk P g E E' A) : Sep E' B := by
  obtain ⟨h1, h2⟩ := h
  rw [List.map_append, List.nodup_append] at h1
  refine ⟨h1.2.1, fun o ho id hid => ?_⟩
  rcases hm.new id hid with ⟨a1, a2, a3⟩ | ⟨p, hp, a2, _⟩
  · rw [a2]; exact h2 o (List.mem_append_right _ ho) id a1
  · rw [a2]; exact h1.2.2 _ (List.mem_map_of_mem hp) _ (List.mem_map_of_mem ho)
mutual
theorem matA_sound {P : Program} {g : Bool} : ∀ (x : AV) (v : Value) (L : List OLoc) (st : St) (E : Env), Ok P E → E.h = st.h → E.nx = st.nx → ownR P E x v L → Sep E L → (g = true → ∀ o ∈ L, o.l.base = 0) →
    ∃ m', MatOk P g E ⟨E.w, E.I, m', (matA g x st).2.h, (matA g x st).2.nx⟩ L ∧ rep P ⟨E.w, E.I, m', (matA g x st).2.h, (matA g x st).2.nx⟩ (matA g x st).1 v ∧ (matA g x st).2.fr = st.fr ∧
      (x.flat = true → (matA g x st).2.nx = E.nx + L.length ∧ ∀ k o, L[k]? = some o → m' (E.nx + k) = o.l)
  | .own t xs sp ex, v, L, st, E, hE, hh, hnx, h, hs, hb => by
    simp only [ownR] at h
    obtain ⟨l, L1, L2, vs, us, c, ad, rfl, rfl, h3, h4, h5, h6, h7, h8, h9, h10, h11, h12⟩ := h
    have hs' : Sep E ([⟨l, t, xs.length + sp.length⟩] ++ (L1 ++ L2)) := hs
    have hsL : Sep E (L1 ++ L2) := by
      obtain ⟨k1, k2⟩ := hs'
      rw [List.map_append, List.nodup_append] at k1
      exact ⟨k1.2.1, fun o ho => k2 o (List.mem_append_right _ ho)⟩
    obtain ⟨m1, M1, r1, f1, q1⟩ := matL_sound xs vs L1 st E hE hh hnx h8 hsL.left (fun hg o ho => hb hg o (by simp [ho]))
    obtain ⟨m2, M2, r2, f2, q2⟩ := matL_sound sp us L2 (matL g xs st).2 ⟨E.w, E.I, m1, (matL g xs st).2.h, (matL g xs st).2.nx⟩ M1.ok rfl rfl (ownRL_move (E := E) (E' := ⟨E.w, E.I, m1, (matL g xs st).2.h, (matL g xs st).2.nx⟩) rfl rfl _ _ _ h9) (hsL.right M1) (fun hg o ho => hb hg o (by simp [ho]))
    have M12 := M1.trans M2
    have hl1 : (matL g xs st).1.length = xs.length := by rw [← repL_length r1]; exact ownRL_length xs vs L1 h8
    have hl2 : (matL g sp (matL g xs st).2).1.length = sp.length := by rw [← repL_length r2]; exact ownRL_length sp us L2 h9
    have hfree : ∀ id, ((matL g sp (matL g xs st).2).2.h id).lv = true → (m2 id).b ≠ l.b := by
      intro id hid
      obtain ⟨k1, k2⟩ := hs'
      rw [List.map_append, List.nodup_append] at k1
      rcases M12.new id hid with ⟨a1, a2, _⟩ | ⟨o, ho, a2, _⟩
      · rw [show m2 id = E.m id from a2]; exact k2 ⟨l, t, xs.length + sp.length⟩ (by simp) id a1
      · rw [show m2 id = o.l from a2]
        exact fun e => k1.2.2 _ (by simp) _ (List.mem_map_of_mem ho) e.symm
    have hcl : ∀ y ∈ (matL g xs st).1 ++ (matL g sp (matL g xs st).2).1, y.el P t = true := by
      intro y hy
      rcases List.mem_append.1 hy with hy | hy
      · exact matL_el g xs st (fun x hx => h7 x (by simp [hx])) y hy
      · exact matL_el g sp _ (fun x hx => h7 x (by simp [hx])) y hy
    have A := add_priv M12.ok l c t ((matL g xs st).1 ++ (matL g sp (matL g xs st).2).1) (vs ++ us) ex g (repL_append (repL_mono M2.le _ _ r1) r2) h11 hcl
      (by rw [List.length_append, hl1, hl2]; exact h5) (by rw [List.length_append, hl1, hl2]; exact h6) h12 h10 h4 hfree (fun hg => hb hg _ (List.mem_cons_self ..))
    refine ⟨upd m2 (matL g sp (matL g xs st).2).2.nx l, ?_, ?_, ?_, ?_⟩
    · have T := M12.trans A
      simp only [matA]
      refine ⟨T.w, T.I, T.le, T.ok, T.old, fun id hid => ?_⟩
      rcases T.new id hid with h | ⟨o, ho, h⟩
      · exact .inl h
      · refine .inr ⟨o, ?_, h⟩
        rw [List.length_append, hl1, hl2] at ho
        simp only [List.mem_append, List.mem_cons, List.mem_singleton, List.not_mem_nil, or_false] at ho ⊢
        rcases ho with ho | ho
        · exact .inr ho
        · exact .inl ho
    · simp only [matA, rep]
      refine ⟨Nat.lt_succ_self _, by simp [St.new, upd, hl1, hl2], ad, l.cap, rfl, fun _ _ => ⟨by omega, by simp [upd], fun hk => by simpa [upd] using h3 hk⟩⟩
    · simp only [matA, St.new]; rw [f2, f1]
    · intro hfl
      simp only [AV.flat, Bool.and_eq_true] at hfl
      obtain ⟨e1, _⟩ := repL_of_ownRL xs vs L1 hfl.1 h8
      obtain ⟨e2, _⟩ := repL_of_ownRL sp us L2 hfl.2 h9
      subst e1; subst e2
      simp only [matA, matL_pure g xs st hfl.1, matL_pure g sp st hfl.2, St.new]
      refine ⟨by simp [hnx], fun k o hk => ?_⟩
      cases k with
      | zero => simp only [List.getElem?_cons_zero, Option.some.injEq] at hk; subst hk; simp [upd, hnx]
      | succ k => simp at hk
  | .agg cs, v, L, st, E, hE, hh, hnx, h, hs, hb => by
    simp only [ownR] at h
    obtain ⟨vs, rfl, h2⟩ := h
    obtain ⟨m1, M1, r1, f1, q1⟩ := matL_sound cs vs L st E hE hh hnx h2 hs hb
    exact ⟨m1, by simpa only [matA] using M1, by simp only [matA, rep]; exact ⟨vs, rfl, r1⟩, by simpa only [matA] using f1, by simpa only [matA, AV.flat] using q1⟩
  | .tup cs, v, L, st, E, hE, hh, hnx, h, hs, hb => by
    simp only [ownR] at h
    obtain ⟨vs, rfl, h2⟩ := h
    obtain ⟨m1, M1, r1, f1, q1⟩ := matL_sound cs vs L st E hE hh hnx h2 hs hb
    exact ⟨m1, by simpa only [matA] using M1, by simp only [matA, rep]; exact ⟨vs, rfl, r1⟩, by simpa only [matA] using f1, by simpa only [matA, AV.flat] using q1⟩
  | .undef, v, L, st, E, hE, hh, hnx, h, _, _ => by
    simp only [ownR] at h; subst h
    exact ⟨E.m, by simp only [matA]; rw [← hh, ← hnx]; exact MatOk.refl hE, by simp [matA, rep], rfl, fun _ => ⟨by simp [matA, hnx], by simp⟩⟩
  | .bool b, v, L, st, E, hE, hh, hnx, h, _, _ => by
    simp only [ownR] at h; obtain ⟨rfl, h⟩ := h
    exact ⟨E.m, by simp only [matA]; rw [← hh, ← hnx]; exact MatOk.refl hE, by simp only [matA]; rw [← hh, ← hnx]; exact h, rfl, fun _ => ⟨by simp [matA, hnx], by simp⟩⟩
  | .int k n, v, L, st, E, hE, hh, hnx, h, _, _ => by
    simp only [ownR] at h; obtain ⟨rfl, h⟩ := h
    exact ⟨E.m, by simp only [matA]; rw [← hh, ← hnx]; exact MatOk.refl hE, by simp only [matA]; rw [← hh, ← hnx]; exact h, rfl, fun _ => ⟨by simp [matA, hnx], by simp⟩⟩
  | .str s, v, L, st, E, hE, hh, hnx, h, _, _ => by
    simp only [ownR] at h; obtain ⟨rfl, h⟩ := h
    exact ⟨E.m, by simp only [matA]; rw [← hh, ← hnx]; exact MatOk.refl hE, by simp only [matA]; rw [← hh, ← hnx]; exact h, rfl, fun _ => ⟨by simp [matA, hnx], by simp⟩⟩
  | .nil, v, L, st, E, hE, hh, hnx, h, _, _ => by
    simp only [ownR] at h; obtain ⟨rfl, h⟩ := h
    exact ⟨E.m, by simp only [matA]; rw [← hh, ← hnx]; exact MatOk.refl hE, by simp only [matA]; rw [← hh, ← hnx]; exact h, rfl, fun _ => ⟨by simp [matA, hnx], by simp⟩⟩
  | .sl t xs sp ex, v, L, st, E, hE, hh, hnx, h, _, _ => by
    simp only [ownR] at h; obtain ⟨rfl, _, h⟩ := h
    exact ⟨E.m, by simp only [matA]; rw [← hh, ← hnx]; exact MatOk.refl hE, by simp only [matA]; rw [← hh, ← hnx]; exact h, rfl, fun _ => ⟨by simp [matA, hnx], by simp⟩⟩
  | .cptr t x j, v, L, st, E, hE, hh, hnx, h, _, _ => by
    simp only [ownR] at h; obtain ⟨rfl, _, h⟩ := h
    exact ⟨E.m, by simp only [matA]; rw [← hh, ← hnx]; exact MatOk.refl hE, by simp only [matA]; rw [← hh, ← hnx]; exact h, rfl, fun _ => ⟨by simp [matA, hnx], by simp⟩⟩
  | .fn f a b, v, L, st, E, hE, hh, hnx, h, _, _ => by
    simp only [ownR] at h; obtain ⟨rfl, _, h⟩ := h
    exact ⟨E.m, by simp only [matA]; rw [← hh, ← hnx]; exact MatOk.refl hE, by simp only [matA]; rw [← hh, ← hnx]; exact h, rfl, fun _ => ⟨by simp [matA, hnx], by simp⟩⟩
  | .ref .., _, _, _, _, _, _, _, h, _, _ => by simp [ownR] at h
  | .ptr .., _, _, _, _, _, _, _, h, _, _ => by simp [ownR] at h
theorem matL_sound {P : Program} {g : Bool} : ∀ (xs : List AV) (vs : List Value) (L : List OLoc) (st : St) (E : Env), Ok P E → E.h = st.h → E.nx = st.nx → ownRL P E xs vs L → Sep E L → (g = true → ∀ o ∈ L, o.l.base = 0) →
    ∃ m', MatOk P g E ⟨E.w, E.I, m', (matL g xs st).2.h, (matL g xs st).2.nx⟩ L ∧ repL P ⟨E.w, E.I, m', (matL g xs st).2.h, (matL g xs st).2.nx⟩ (matL g xs st).1 vs ∧ (matL g xs st).2.fr = st.fr ∧
      (AV.flatL xs = true → (matL g xs st).2.nx = E.nx + L.length ∧ ∀ k o, L[k]? = some o → m' (E.nx + k) = o.l)
  | [], vs, L, st, E, hE, hh, hnx, h, _, _ => by
    simp only [ownRL] at h; obtain ⟨rfl, rfl⟩ := h
    exact ⟨E.m, by simp only [matL]; rw [← hh, ← hnx]; exact MatOk.refl hE, by simp [matL, repL], rfl, fun _ => ⟨by simp [matL, hnx], by simp⟩⟩
  | x :: xs, vs, L, st, E, hE, hh, hnx, h, hs, hb => by
    simp only [ownRL] at h
    obtain ⟨v, us, L1, L2, rfl, rfl, h3, h4⟩ := h
    obtain ⟨m1, M1, r1, f1, q1⟩ := matA_sound x v L1 st E hE hh hnx h3 hs.left (fun hg o ho => hb hg o (by simp [ho]))
    obtain ⟨m2, M2, r2, f2, q2⟩ := matL_sound xs us L2 (matA g x st).2 ⟨E.w, E.I, m1, (matA g x st).2.h, (matA g x st).2.nx⟩ M1.ok rfl rfl (ownRL_move (E := E) (E' := ⟨E.w, E.I, m1, (matA g x st).2.h, (matA g x st).2.nx⟩) rfl rfl _ _ _ h4) (hs.right M1) (fun hg o ho => hb hg o (by simp [ho]))
    refine ⟨m2, by simpa only [matL] using M1.trans M2, ?_, by simp only [matL]; rw [f2, f1], ?_⟩
    · simp only [matL, repL]
      exact ⟨v, us, rfl, rep_mono M2.le _ _ r1, r2⟩
    · intro hfl
      simp only [AV.flatL, Bool.and_eq_true] at hfl
      obtain ⟨n1, k1⟩ := q1 hfl.1
      obtain ⟨n2, k2⟩ := q2 hfl.2
      simp only at n2 k2
      refine ⟨by simp only [matL]; rw [n2, n1, List.length_append]; omega, fun k o hk => ?_⟩
      rcases Nat.lt_or_ge k L1.length with hlt | hge
      · rw [List.getElem?_append_left hlt] at hk
        have := (M2.old (E.nx + k) (by show E.nx + k < (matA g x st).2.nx; omega)).1
        rw [show m2 (E.nx + k) = m1 (E.nx + k) from this]
        exact k1 k o hk
      · rw [List.getElem?_append_right hge] at hk
        have := k2 (k - L1.length) o hk
        rw [n1] at this
        rw [← this]; congr 1; omega
end
def snapL (f : AV → Option (AV × List Nat)) : List AV → Option (List AV × List Nat)
 | [] => some ([], [])
 | x :: xs => (f x).bind fun p => (snapL f xs).bind fun q => some (p.1 :: q.1, p.2 ++ q.2)
def snapA (st : St) : Nat → AV → Option (AV × List Nat)
 | 0, v => if v.pure then some (v, []) else none
 | d + 1, v => if v.pure then some (v, []) else
  match v with
  | .ref id n off len => if (st.h id).lv ∧ (st.h id).xs.length = n ∧ off + len ≤ n then
    (snapL (snapA st d) (((st.h id).xs.drop off).take len)).bind fun p => some (.sl (st.h id).t p.1 [] false, id :: p.2) else none
  | .ptr id n i j => if (st.h id).lv ∧ (st.h id).xs.length = n then ((st.h id).xs[i]?).bind fun x => (snapA st d x).bind fun p => some (.cptr (st.h id).t p.1 j, id :: p.2) else none
  | .agg cs => (snapL (snapA st d) cs).bind fun p => some (.agg p.1, p.2)
  | .tup cs => (snapL (snapA st d) cs).bind fun p => some (.tup p.1, p.2)
  | .fn f a b => (snapL (snapA st d) a).bind fun p => (snapL (snapA st d) b).bind fun q => some (.fn f p.1 q.1, p.2 ++ q.2)
  | .sl t xs sp ex => (snapL (snapA st d) xs).bind fun p => (snapL (snapA st d) sp).bind fun q => some (.sl t p.1 q.1 ex, p.2 ++ q.2)
  | _ => none
def ownA (st : St) : Nat → AV → Option (AV × List Nat)
 | 0, v => if v.pure then some (v, []) else none
 | d + 1, v => if v.pure then some (v, []) else
  match v with
  | .ref id n off len => if (st.h id).lv ∧ (st.h id).xs.length = n ∧ off = 0 ∧ len ≤ n ∧ (st.h id).gr then
    (snapL (ownA st d) ((st.h id).xs.take len)).bind fun p => (if (st.h id).ex then snapL (ownA st d) ((st.h id).xs.drop len) else some ([], [])).bind fun q =>
     some (.own (st.h id).t p.1 q.1 (st.h id).ex, id :: (p.2 ++ q.2)) else none
  | .agg cs => (snapL (ownA st d) cs).bind fun p => some (.agg p.1, p.2)
  | .tup cs => (snapL (ownA st d) cs).bind fun p => some (.tup p.1, p.2)
  | _ => none
theorem snapL_cons {f : AV → Option (AV × List Nat)} {x : AV} {xs : List AV} {r : List AV × List Nat} (h : snapL f (x :: xs) = some r) :
  ∃ y i ys is, f x = some (y, i) ∧ snapL f xs = some (ys, is) ∧ r = (y :: ys, i ++ is) := by
 simp only [snapL] at h
 obtain ⟨⟨y, i⟩, h1, h⟩ := Option.bind_eq_some_iff.1 h
 obtain ⟨⟨ys, is⟩, h2, h⟩ := Option.bind_eq_some_iff.1 h
 simp only [Option.some.injEq] at h
 exact ⟨y, i, ys, is, h1, h2, h.symm⟩
theorem snapL_length {f : AV → Option (AV × List Nat)} : ∀ {xs ys : List AV} {is : List Nat}, snapL f xs = some (ys, is) → ys.length = xs.length
 | [], ys, is, h => by simp only [snapL, Option.some.injEq, Prod.mk.injEq] at h; simp [← h.1]
 | x :: xs, ys, is, h => by
  obtain ⟨y, i, ys', is', h1, h2, h3⟩ := snapL_cons h
  simp only [Prod.mk.injEq] at h3
  rw [h3.1]; simp [snapL_length h2]
theorem snapL_all {f : AV → Option (AV × List Nat)} {R : AV → AV → List Nat → Prop} (hf : ∀ x y i, f x = some (y, i) → R x y i) : ∀ {xs ys : List AV} {is : List Nat}, snapL f xs = some (ys, is) →
  ∀ (k : Nat) (x y : AV), xs[k]? = some x → ys[k]? = some y → ∃ i, R x y i ∧ ∀ a ∈ i, a ∈ is
 | [], ys, is, h, k, x, y, hx, _ => by simp at hx
 | z :: xs, ys, is, h, k, x, y, hx, hy => by
  obtain ⟨y', i, ys', is', h1, h2, h3⟩ := snapL_cons h
  simp only [Prod.mk.injEq] at h3
  obtain ⟨rfl, rfl⟩ := h3
  cases k with
  | zero => simp only [List.getElem?_cons_zero, Option.some.injEq] at hx hy; subst hx; subst hy; exact ⟨i, hf _ _ _ h1, fun a ha => List.mem_append_left _ ha⟩
  | succ k =>
   simp only [List.getElem?_cons_succ] at hx hy
   obtain ⟨j, h4, h5⟩ := snapL_all hf h2 k x y hx hy
   exact ⟨j, h4, fun a ha => List.mem_append_right _ (h5 a ha)⟩
theorem snapA_one {st : St} : ∀ {d : Nat} {x y : AV} {i : List Nat}, snapA st d x = some (y, i) → x.one = true → y.one = true := by
  intro d x y i h h1
  have key : x.pure = true → some (x, ([] : List Nat)) = some (y, i) → y.one = true := fun _ e => by cases e; exact h1
  cases d with
  | zero =>
    simp only [snapA] at h
    split at h
    · exact key ‹_› h
    · cases h
  | succ d =>
    simp only [snapA] at h
    split at h
    · exact key ‹_› h
    · split at h
      · split at h
        · obtain ⟨p, _, h⟩ := Option.bind_eq_some_iff.1 h; cases h; rfl
        · cases h
      · split at h
        · obtain ⟨p, _, h⟩ := Option.bind_eq_some_iff.1 h
          obtain ⟨q, _, h⟩ := Option.bind_eq_some_iff.1 h; cases h; rfl
        · cases h
      · simp [AV.one] at h1
      · simp [AV.one] at h1
      · obtain ⟨p, _, h⟩ := Option.bind_eq_some_iff.1 h
        obtain ⟨q, _, h⟩ := Option.bind_eq_some_iff.1 h; cases h; rfl
      · obtain ⟨p, _, h⟩ := Option.bind_eq_some_iff.1 h
        obtain ⟨q, _, h⟩ := Option.bind_eq_some_iff.1 h; cases h; rfl
      · cases h
theorem ownA_one {st : St} : ∀ {d : Nat} {x y : AV} {i : List Nat}, ownA st d x = some (y, i) → x.one = true → y.one = true := by
  intro d x y i h h1
  have key : x.pure = true → some (x, ([] : List Nat)) = some (y, i) → y.one = true := fun _ e => by cases e; exact h1
  cases d with
  | zero =>
    simp only [ownA] at h
    split at h
    · exact key ‹_› h
    · cases h
  | succ d =>
    simp only [ownA] at h
    split at h
    · exact key ‹_› h
    · split at h
      · split at h
        · obtain ⟨p, _, h⟩ := Option.bind_eq_some_iff.1 h
          obtain ⟨q, _, h⟩ := Option.bind_eq_some_iff.1 h; cases h; rfl
        · cases h
      · simp [AV.one] at h1
      · simp [AV.one] at h1
      · cases h
theorem el_keep {P : Program} {t : Nat} {f : AV → Option (AV × List Nat)} {x y : AV} (h1 : x.one = true → y.one = true)
    (h2 : ∀ cs, x = .agg cs → x.pure = true ∧ y = x ∨ ∃ p, snapL f cs = some p ∧ y = .agg p.1) (hf : ∀ a b j, f a = some (b, j) → a.one = true → b.one = true) (h : x.el P t = true) : y.el P t = true := by
  have e1 := el_len h
  have e2 := el_one h
  by_cases ha : ∃ cs, x = .agg cs
  · obtain ⟨cs, rfl⟩ := ha
    rcases h2 cs rfl with ⟨_, rfl⟩ | ⟨⟨ys, is⟩, hp, rfl⟩
    · exact h
    · simp only [AV.cells] at e1 e2
      refine el_agg (by rw [snapL_length hp, e1]) fun c hc => ?_
      obtain ⟨k, hk⟩ := List.getElem?_of_mem hc
      have hlt : k < cs.length := by
        rw [← snapL_length hp]
        rcases Nat.lt_or_ge k ys.length with h' | h'
        · exact h'
        · rw [List.getElem?_eq_none h'] at hk; cases hk
      obtain ⟨j, hR, _⟩ := snapL_all (R := fun a b _ => a.one = true → b.one = true) hf hp k _ _ (List.getElem?_eq_getElem hlt) hk
      exact hR (e2 _ (List.getElem_mem hlt))
  · have hx : x.cells = [x] := by cases x <;> simp_all [AV.cells]
    rw [hx] at e1 e2
    have ho := h1 (e2 x (by simp))
    have hm := one_cells ho
    unfold AV.el; rw [Bool.and_eq_true]
    exact ⟨decide_eq_true (by rw [hm]; simpa using e1), List.all_eq_true.2 (by rw [hm]; simpa using ho)⟩
theorem snapA_el {P : Program} {st : St} {d t : Nat} {x y : AV} {i : List Nat} (h : snapA st d x = some (y, i)) (he : x.el P t = true) : y.el P t = true := by
  cases d with
  | zero =>
    simp only [snapA] at h
    split at h
    · cases h; exact he
    · cases h
  | succ d =>
    refine el_keep (f := snapA st d) (snapA_one h) (fun cs hcs => ?_) (fun a b j hab => snapA_one hab) he
    subst hcs
    simp only [snapA] at h
    split at h
    · cases h; exact .inl ⟨‹_›, rfl⟩
    · obtain ⟨p, hp, h⟩ := Option.bind_eq_some_iff.1 h; cases h; exact .inr ⟨p, hp, rfl⟩
theorem ownA_el {P : Program} {st : St} {d t : Nat} {x y : AV} {i : List Nat} (h : ownA st d x = some (y, i)) (he : x.el P t = true) : y.el P t = true := by
  cases d with
  | zero =>
    simp only [ownA] at h
    split at h
    · cases h; exact he
    · cases h
  | succ d =>
    refine el_keep (f := ownA st d) (ownA_one h) (fun cs hcs => ?_) (fun a b j hab => ownA_one hab) he
    subst hcs
    simp only [ownA] at h
    split at h
    · cases h; exact .inl ⟨‹_›, rfl⟩
    · obtain ⟨p, hp, h⟩ := Option.bind_eq_some_iff.1 h; cases h; exact .inr ⟨p, hp, rfl⟩
theorem snapL_el {P : Program} {t : Nat} {f : AV → Option (AV × List Nat)} (hf : ∀ x y i, f x = some (y, i) → x.el P t = true → y.el P t = true) {xs ys : List AV} {is : List Nat} (h : snapL f xs = some (ys, is))
    (he : ∀ x ∈ xs, x.el P t = true) : ∀ y ∈ ys, y.el P t = true := by
  intro y hy
  obtain ⟨k, hk⟩ := List.getElem?_of_mem hy
  have hlt : k < xs.length := by
    rw [← snapL_length h]
    rcases Nat.lt_or_ge k ys.length with h' | h'
    · exact h'
    · rw [List.getElem?_eq_none h'] at hk; cases hk
  obtain ⟨j, hR, _⟩ := snapL_all (R := fun a b _ => a.el P t = true → b.el P t = true) hf h k _ _ (List.getElem?_eq_getElem hlt) hk
  exact hR (he _ (List.getElem_mem hlt))
end Go.Proofs.YtdljcbbodihagaaGreatDoor
