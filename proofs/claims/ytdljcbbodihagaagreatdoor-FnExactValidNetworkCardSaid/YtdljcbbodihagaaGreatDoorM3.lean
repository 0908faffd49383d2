/- Ground 3. -/
import Derived.Test.YtdljcbbodihagaaGreatDoorM2

set_option linter.unusedVariables false
set_option linter.unusedSimpArgs false
set_option maxRecDepth 100000
namespace Go.Proofs.YtdljcbbodihagaaGreatDoor
open Go

def Env.shut (E : Env) (ids : List Nat) : Env := ⟨E.w, fun b => E.I b ∨ ∃ id ∈ ids, (E.h id).lv = true ∧ (E.m id).b = b, E.m, E.h, E.nx⟩
theorem shut_mono {P : Program} {E : Env} {A B : List Nat} (h : ∀ a ∈ A, a ∈ B) {x : AV} {v : Value} (hp : x.pure = true) (hr : rep P (E.shut A) x v) : rep P (E.shut B) x v :=
 rep_pure (E := E.shut A) (E' := E.shut B) (fun b hb => ⟨Or.imp id (fun ⟨i, hi, h1⟩ => ⟨i, h i hi, h1⟩) hb, rfl⟩) x v hp hr
theorem shutL_mono {P : Program} {E : Env} {A B : List Nat} (h : ∀ a ∈ A, a ∈ B) {x : List AV} {v : List Value} (hp : AV.pureL x = true) (hr : repL P (E.shut A) x v) : repL P (E.shut B) x v :=
 repL_pure (E := E.shut A) (E' := E.shut B) (fun b hb => ⟨Or.imp id (fun ⟨i, hi, h1⟩ => ⟨i, h i hi, h1⟩) hb, rfl⟩) x v hp hr
theorem snapL_sound {P : Program} {E : Env} {f : AV → Option (AV × List Nat)} (hf : ∀ x y i u, f x = some (y, i) → rep P E x u → y.pure = true ∧ rep P (E.shut i) y u ∧ ∀ a ∈ i, (E.h a).lv = true) :
  ∀ {xs ys : List AV} {is : List Nat} {us : List Value}, snapL f xs = some (ys, is) → repL P E xs us → AV.pureL ys = true ∧ repL P (E.shut is) ys us ∧ ∀ a ∈ is, (E.h a).lv = true
 | [], ys, is, us, h, hr => by
  simp only [snapL, Option.some.injEq, Prod.mk.injEq] at h
  obtain ⟨rfl, rfl⟩ := h
  exact ⟨rfl, by simpa [repL] using hr, by simp⟩
 | x :: xs, ys, is, us, h, hr => by
  obtain ⟨y, i, ys', is', h1, h2, h3⟩ := snapL_cons h
  simp only [Prod.mk.injEq] at h3
  obtain ⟨rfl, rfl⟩ := h3
  simp only [repL] at hr
  obtain ⟨u, us', rfl, h4, h5⟩ := hr
  obtain ⟨a1, a2, a3⟩ := hf x y i u h1 h4
  obtain ⟨b1, b2, b3⟩ := snapL_sound hf h2 h5
  refine ⟨by simp [AV.pureL, a1, b1], ?_, fun a ha => (List.mem_append.1 ha).elim (a3 a) (b3 a)⟩
  simp only [repL]
  exact ⟨u, us', rfl, shut_mono (fun a ha => List.mem_append_left _ ha) a1 a2, shutL_mono (fun a ha => List.mem_append_right _ ha) b1 b2⟩
theorem snapA_sound {P : Program} {E : Env} {st : St} (hE : Ok P E) (hh : st.h = E.h) : ∀ (d : Nat) (x y : AV) (ids : List Nat) (u : Value), snapA st d x = some (y, ids) → rep P E x u →
    y.pure = true ∧ rep P (E.shut ids) y u ∧ ∀ a ∈ ids, (E.h a).lv = true := by
  have base : ∀ (x y : AV) (ids : List Nat) (u : Value), x.pure = true → some (x, ([] : List Nat)) = some (y, ids) → rep P E x u → y.pure = true ∧ rep P (E.shut ids) y u ∧ ∀ a ∈ ids, (E.h a).lv = true := by
    intro x y ids u hp h hr
    cases h
    exact ⟨hp, rep_pure (E := E) (E' := E.shut []) (fun b hb => ⟨Or.inl hb, rfl⟩) _ _ hp hr, by simp⟩
  intro d
  induction d with
  | zero =>
    intro x y ids u h hr
    simp only [snapA] at h
    split at h
    · exact base x y ids u ‹_› h hr
    · cases h
  | succ d ih =>
    intro x y ids u h hr
    have ihL := fun {xs ys is us} => snapL_sound (f := snapA st d) (P := P) (E := E) (fun x y i u h1 h2 => ih x y i u h1 h2) (xs := xs) (ys := ys) (is := is) (us := us)
    simp only [snapA] at h
    split at h
    · exact base x y ids u ‹_› h hr
    · split at h
      · rename_i id n off len _
        split at h
        · rename_i hc
          rw [hh] at hc h
          obtain ⟨⟨ys, is⟩, h1, h⟩ := Option.bind_eq_some_iff.1 h
          cases h
          obtain ⟨hlv, hn, hle⟩ := hc
          have B := hE.blk id hlv
          obtain ⟨c, vs, hb, hrl, hca, hcs⟩ := B.at_
          simp only [rep] at hr
          obtain ⟨hid, hnl, ad, k, rfl, hr⟩ := hr
          obtain ⟨g1, g2, g3⟩ := hr hlv hn
          have hBle := B.le
          obtain ⟨a1, a2, a3⟩ := ihL h1 (repL_take (repL_drop hrl off) len)
          have hyl : ys.length = len := by rw [snapL_length h1, List.length_take, List.length_drop]; omega
          refine ⟨by simp [AV.pure, a1, AV.pureL], ?_, fun a ha => ?_⟩
          · simp only [rep]
            refine ⟨some ad, k, by rw [hyl], by rw [hyl]; simp; omega, by simp, ?_, (vs.drop off).take len, [], shutL_mono (fun a ha => List.mem_cons_of_mem _ ha) a1 a2, by simp [repL], fun hne => ?_⟩
            · rw [List.append_nil]
              exact snapL_el (fun x y i h he => snapA_el h he) h1 (fun x hx => B.cl x (List.mem_of_mem_drop (List.mem_of_mem_take hx)))
            · rw [hyl] at hne
              simp only [List.length_nil, Nat.add_zero] at hne
              cases g3 (by omega)
              refine ⟨(E.m id).b, _, c, ((E.h id).t, (0, 0)), rfl, .inr ⟨id, List.mem_cons_self .., hlv, rfl⟩, hb, ?_⟩
              rw [List.append_nil]
              exact (hca.drop off).take len
          · rcases List.mem_cons.1 ha with rfl | ha
            · exact hlv
            · exact a3 a ha
        · cases h
      · rename_i id n i j _
        split at h
        · rename_i hc
          rw [hh] at hc h
          obtain ⟨hlv, hn⟩ := hc
          obtain ⟨x, hx, h⟩ := Option.bind_eq_some_iff.1 h
          obtain ⟨⟨z, is⟩, h1, h⟩ := Option.bind_eq_some_iff.1 h
          cases h
          have B := hE.blk id hlv
          obtain ⟨c, vs, hb, hrl, hca, hcs⟩ := B.at_
          obtain ⟨w, hw, hwr⟩ := repL_get hrl i x hx
          simp only [rep] at hr
          obtain ⟨hid, hnl, ad, rfl, hr⟩ := hr
          obtain ⟨a1, a2, a3⟩ := ih x z is w h1 hwr
          have hxe := B.cl x (List.mem_of_getElem? hx)
          have hze := snapA_el h1 hxe
          refine ⟨by simp [AV.pure, a1], ?_, fun a ha => ?_⟩
          · simp only [rep]
            refine ⟨(E.m id).b, (E.m id).base + i * szT P (E.h id).t, c, ((E.h id).t, (0, 0)), w, by rw [hr hlv hn], .inr ⟨id, List.mem_cons_self .., hlv, rfl⟩, hb, shut_mono (fun a ha => List.mem_cons_of_mem _ ha) a1 a2, ?_, hca.get hw⟩
            rw [el_len hze, el_size hwr hxe]
          · rcases List.mem_cons.1 ha with rfl | ha
            · exact hlv
            · exact a3 a ha
        · cases h
      · obtain ⟨⟨ys, is⟩, h1, h⟩ := Option.bind_eq_some_iff.1 h
        cases h
        simp only [rep] at hr
        obtain ⟨vs, rfl, hvs⟩ := hr
        obtain ⟨a1, a2, a3⟩ := ihL h1 hvs
        exact ⟨by simpa [AV.pure] using a1, by simp only [rep]; exact ⟨vs, rfl, a2⟩, a3⟩
      · obtain ⟨⟨ys, is⟩, h1, h⟩ := Option.bind_eq_some_iff.1 h
        cases h
        simp only [rep] at hr
        obtain ⟨vs, rfl, hvs⟩ := hr
        obtain ⟨a1, a2, a3⟩ := ihL h1 hvs
        exact ⟨by simpa [AV.pure] using a1, by simp only [rep]; exact ⟨vs, rfl, a2⟩, a3⟩
      · obtain ⟨⟨ys, is⟩, h1, h⟩ := Option.bind_eq_some_iff.1 h
        obtain ⟨⟨zs, js⟩, h2, h⟩ := Option.bind_eq_some_iff.1 h
        cases h
        simp only [rep] at hr
        obtain ⟨vs, us, rfl, hvs, hus⟩ := hr
        obtain ⟨a1, a2, a3⟩ := ihL h1 hvs
        obtain ⟨b1, b2, b3⟩ := ihL h2 hus
        refine ⟨by simp [AV.pure, a1, b1], ?_, fun a ha => (List.mem_append.1 ha).elim (a3 a) (b3 a)⟩
        simp only [rep]
        exact ⟨vs, us, rfl, shutL_mono (fun a ha => List.mem_append_left _ ha) a1 a2, shutL_mono (fun a ha => List.mem_append_right _ ha) b1 b2⟩
      · rename_i t xs sp ex _
        obtain ⟨⟨ys, is⟩, h1, h⟩ := Option.bind_eq_some_iff.1 h
        obtain ⟨⟨zs, js⟩, h2, h⟩ := Option.bind_eq_some_iff.1 h
        cases h
        simp only [rep] at hr
        obtain ⟨a, cap, rfl, hk1, hk2, hcl, vs, us, hvs, hus, hne⟩ := hr
        obtain ⟨a1, a2, a3⟩ := ihL h1 hvs
        obtain ⟨b1, b2, b3⟩ := ihL h2 hus
        have e1 := snapL_length h1
        have e2 := snapL_length h2
        refine ⟨by simp [AV.pure, a1, b1], ?_, fun a ha => (List.mem_append.1 ha).elim (a3 a) (b3 a)⟩
        simp only [rep]
        refine ⟨a, cap, by rw [e1], by rw [e1, e2]; exact hk1, by rw [e1, e2]; exact hk2, fun y hy => ?_, vs, us, shutL_mono (fun a ha => List.mem_append_left _ ha) a1 a2, shutL_mono (fun a ha => List.mem_append_right _ ha) b1 b2, fun hn => ?_⟩
        · rcases List.mem_append.1 hy with hy | hy
          · exact snapL_el (fun x y i h he => snapA_el h he) h1 (fun x hx => hcl x (List.mem_append_left _ hx)) y hy
          · exact snapL_el (fun x y i h he => snapA_el h he) h2 (fun x hx => hcl x (List.mem_append_right _ hx)) y hy
        · obtain ⟨b, off, c, fz, g1, g2, g3, g4⟩ := hne (by rw [e1, e2] at hn; exact hn)
          exact ⟨b, off, c, fz, g1, .inl g2, g3, g4⟩
      · cases h
theorem ownL_sound {P : Program} {E : Env} {f : AV → Option (AV × List Nat)} (hf : ∀ x y i u, f x = some (y, i) → rep P E x u → ∃ L : List OLoc, ownR P E y u L ∧ (∀ a ∈ i, (E.h a).lv = true ∧ (E.h a).gr = true) ∧ L.map (·.l) = i.map E.m ∧ ∀ o ∈ L, ∃ a ∈ i, o.l = E.m a ∧ o.t = (E.h a).t ∧ o.n ≤ (E.h a).xs.length) :
    ∀ {xs ys : List AV} {is : List Nat} {us : List Value}, snapL f xs = some (ys, is) → repL P E xs us → ∃ L : List OLoc, ownRL P E ys us L ∧ (∀ a ∈ is, (E.h a).lv = true ∧ (E.h a).gr = true) ∧ L.map (·.l) = is.map E.m ∧ ∀ o ∈ L, ∃ a ∈ is, o.l = E.m a ∧ o.t = (E.h a).t ∧ o.n ≤ (E.h a).xs.length
  | [], ys, is, us, h, hr => by
    simp only [snapL, Option.some.injEq, Prod.mk.injEq] at h
    obtain ⟨rfl, rfl⟩ := h
    simp only [repL] at hr; subst hr
    exact ⟨[], by simp [ownRL], by simp, rfl, by simp⟩
  | x :: xs, ys, is, us, h, hr => by
    obtain ⟨y, i, ys', is', h1, h2, h3⟩ := snapL_cons h
    simp only [Prod.mk.injEq] at h3
    obtain ⟨rfl, rfl⟩ := h3
    simp only [repL] at hr
    obtain ⟨u, us', rfl, h4, h5⟩ := hr
    obtain ⟨L1, a1, a2, a3, a4⟩ := hf x y i u h1 h4
    obtain ⟨L2, b1, b2, b3, b4⟩ := ownL_sound hf h2 h5
    refine ⟨L1 ++ L2, by simp only [ownRL]; exact ⟨u, us', L1, L2, rfl, rfl, a1, b1⟩, fun a ha => (List.mem_append.1 ha).elim (a2 a) (b2 a), by simp [a3, b3], fun o ho => ?_⟩
    rcases List.mem_append.1 ho with ho | ho
    · obtain ⟨a, ha, h⟩ := a4 o ho; exact ⟨a, List.mem_append_left _ ha, h⟩
    · obtain ⟨a, ha, h⟩ := b4 o ho; exact ⟨a, List.mem_append_right _ ha, h⟩
theorem ownA_sound {P : Program} {E : Env} {st : St} (hE : Ok P E) (hh : st.h = E.h) : ∀ (d : Nat) (x y : AV) (ids : List Nat) (u : Value), ownA st d x = some (y, ids) → rep P E x u →
    ∃ L : List OLoc, ownR P E y u L ∧ (∀ a ∈ ids, (E.h a).lv = true ∧ (E.h a).gr = true) ∧ L.map (·.l) = ids.map E.m ∧ ∀ o ∈ L, ∃ a ∈ ids, o.l = E.m a ∧ o.t = (E.h a).t ∧ o.n ≤ (E.h a).xs.length := by
  have base : ∀ (x y : AV) (ids : List Nat) (u : Value), x.pure = true → some (x, ([] : List Nat)) = some (y, ids) → rep P E x u →
      ∃ L : List OLoc, ownR P E y u L ∧ (∀ a ∈ ids, (E.h a).lv = true ∧ (E.h a).gr = true) ∧ L.map (·.l) = ids.map E.m ∧ ∀ o ∈ L, ∃ a ∈ ids, o.l = E.m a ∧ o.t = (E.h a).t ∧ o.n ≤ (E.h a).xs.length := by
    intro x y ids u hp h hr
    cases h
    exact ⟨[], ownR_of_pure _ _ hp hr, by simp, rfl, by simp⟩
  intro d
  induction d with
  | zero =>
    intro x y ids u h hr
    simp only [ownA] at h
    split at h
    · exact base x y ids u ‹_› h hr
    · cases h
  | succ d ih =>
    intro x y ids u h hr
    have ihL := fun {xs ys is us} => ownL_sound (f := ownA st d) (P := P) (E := E) (fun x y i u h1 h2 => ih x y i u h1 h2) (xs := xs) (ys := ys) (is := is) (us := us)
    simp only [ownA] at h
    split at h
    · exact base x y ids u ‹_› h hr
    · split at h
      · rename_i id n off len _
        split at h
        · rename_i hc
          rw [hh] at hc h
          obtain ⟨⟨ys, is⟩, h1, h⟩ := Option.bind_eq_some_iff.1 h
          obtain ⟨⟨zs, js⟩, h2, h⟩ := Option.bind_eq_some_iff.1 h
          cases h
          obtain ⟨hlv, hn, rfl, hle, hgr⟩ := hc
          have B := hE.blk id hlv
          obtain ⟨c, vs, hb, hrl, hca, hcs⟩ := B.at_
          simp only [rep] at hr
          obtain ⟨hid, hnl, ad, k, rfl, hr⟩ := hr
          obtain ⟨g1, g2, g3⟩ := hr hlv hn
          have hBle := B.le
          have hel := fun x hx => snapL_el (P := P) (t := (E.h id).t) (fun x y i h he => ownA_el h he) h1 (fun x hx => B.cl x (List.mem_of_mem_take hx)) x hx
          obtain ⟨L1, a1, a2, a3, a4⟩ := ihL h1 (repL_take hrl len)
          have hyl : ys.length = len := by rw [snapL_length h1, List.length_take]; omega
          rw [Nat.sub_zero] at g2
          have had : (E.m id).cap ≠ 0 → ad = ⟨(E.m id).b, (E.m id).base, none⟩ := fun h => by
            have := g3 (by omega); simpa using this
          by_cases hex : (E.h id).ex = true
          · rw [if_pos hex] at h2
            have hel2 := fun x hx => snapL_el (P := P) (t := (E.h id).t) (fun x y i h he => ownA_el h he) h2 (fun x hx => B.cl x (List.mem_of_mem_drop hx)) x hx
            obtain ⟨L2, b1, b2, b3, b4⟩ := ihL h2 (repL_drop hrl len)
            have hzl : zs.length = n - len := by rw [snapL_length h2, List.length_drop, hn]
            have hcap := B.ex hex
            refine ⟨⟨E.m id, (E.h id).t, ys.length + zs.length⟩ :: (L1 ++ L2), ?_, fun a ha => ?_, by simp [a3, b3], fun o ho => ?_⟩
            · simp only [ownR]
              refine ⟨E.m id, L1, L2, vs.take len, vs.drop len, c, ad, rfl, by rw [hyl, g2], had, B.dark, by omega, fun _ => by omega, fun x hx => (List.mem_append.1 hx).elim (hel x) (hel2 x), a1, b1, hb, by rw [List.take_append_drop]; exact hca, hcs⟩
            · rcases List.mem_cons.1 ha with rfl | ha
              · exact ⟨hlv, hgr⟩
              · exact (List.mem_append.1 ha).elim (a2 a) (b2 a)
            · rcases List.mem_cons.1 ho with rfl | ho
              · exact ⟨id, List.mem_cons_self .., rfl, rfl, by simp only; omega⟩
              · rcases List.mem_append.1 ho with ho | ho
                · obtain ⟨a, ha, h⟩ := a4 o ho; exact ⟨a, by simp [ha], h⟩
                · obtain ⟨a, ha, h⟩ := b4 o ho; exact ⟨a, by simp [ha], h⟩
          · rw [if_neg hex] at h2
            cases h2
            refine ⟨⟨E.m id, (E.h id).t, ys.length + 0⟩ :: (L1 ++ []), ?_, fun a ha => ?_, by simp [a3], fun o ho => ?_⟩
            · simp only [ownR]
              refine ⟨E.m id, L1, [], vs.take len, [], c, ad, rfl, by rw [hyl, g2], had, B.dark, by simp; omega, fun h => absurd h hex, fun x hx => hel x (by simpa using hx), a1, by simp [ownRL], hb, by rw [List.append_nil]; exact hca.take len, hcs⟩
            · rcases List.mem_cons.1 ha with rfl | ha
              · exact ⟨hlv, hgr⟩
              · exact a2 a (by simpa using ha)
            · rcases List.mem_cons.1 ho with rfl | ho
              · exact ⟨id, List.mem_cons_self .., rfl, rfl, by simp only; omega⟩
              · obtain ⟨a, ha, h⟩ := a4 o (by simpa using ho); exact ⟨a, by simp [ha], h⟩
        · cases h
      · obtain ⟨⟨ys, is⟩, h1, h⟩ := Option.bind_eq_some_iff.1 h
        cases h
        simp only [rep] at hr
        obtain ⟨vs, rfl, hvs⟩ := hr
        obtain ⟨L, a1, a2⟩ := ihL h1 hvs
        exact ⟨L, by simp only [ownR]; exact ⟨vs, rfl, a1⟩, a2⟩
      · obtain ⟨⟨ys, is⟩, h1, h⟩ := Option.bind_eq_some_iff.1 h
        cases h
        simp only [rep] at hr
        obtain ⟨vs, rfl, hvs⟩ := hr
        obtain ⟨L, a1, a2⟩ := ihL h1 hvs
        exact ⟨L, by simp only [ownR]; exact ⟨vs, rfl, a1⟩, a2⟩
      · cases h
def bare (w : World) (I : Nat → Prop) : Env := ⟨w, I, fun _ => ⟨0, 0, 0⟩, fun _ => Blk.dead, 0⟩
structure Ini (P : Program) (w : World) (I : Nat → Prop) : Prop where
 lt : ∀ b, I b → b < w.heap.size
 tab : Tab P w I
theorem bare_ok {P : Program} {w : World} {I : Nat → Prop} (h : Ini P w I) : Ok P (bare w I) :=
 ⟨fun id hlv => by simp [bare, Blk.dead] at hlv, fun i j hi => by simp [bare, Blk.dead] at hi, h.lt, h.tab⟩
structure Frm (P : Program) (w w' : World) (L : List OLoc) : Prop where
 os : w'.os = w.os
 tape : w'.tape = w.tape
 output : w'.output = w.output
 size : w.heap.size ≤ w'.heap.size
 same : ∀ b, b < w.heap.size → (∀ o ∈ L, o.l.b ≠ b) → w'.heap[b]? = w.heap[b]?
 part : ∀ o ∈ L, ∀ c, w.heap[o.l.b]? = some (.cells c o.t (0, 0)) → ∃ c', w'.heap[o.l.b]? = some (.cells c' o.t (0, 0)) ∧ c'.size = c.size ∧
  ∀ j, (j < o.l.base ∨ o.l.base + o.n * szT P o.t ≤ j) → c'[j]? = c[j]?
def outOk (P : Program) (E : Env) (o : OLoc) (ys : List AV) : Prop :=
 ys.length = o.n ∧ AV.pureL ys = true ∧ (∀ y ∈ ys, y.el P o.t = true) ∧ ∃ c vs, E.w.heap[o.l.b]? = some (.cells c o.t (0, 0)) ∧ repL P E ys vs ∧ CellsAt c o.l.base (szT P o.t) vs
def CallOk (P : Program) (f : FuncId) (args : List AV) (r : AV) (outs : List (List AV)) : Prop :=
  ∀ (w : World) (I : Nat → Prop) (vs : List Value) (L : List OLoc), Ini P w I → ownRL P (bare w I) args vs L → (L.map (·.l.b)).Nodup →
    Calls P f vs.toArray w fun e w' => ∃ v I' L', e = .returned v ∧ Frm P w w' L ∧ (∀ b, I b → I' b) ∧ (∀ b, I' b → I b ∨ w.heap.size ≤ b) ∧ (∀ b, I' b → b < w'.heap.size) ∧
      ownR P (bare w' I') r v L' ∧ (L'.map (·.l.b)).Nodup ∧ (∀ o ∈ L', w.heap.size ≤ o.l.b ∧ o.l.base = 0) ∧
      (outs = [] ∨ outs.length = L.length ∧ ∀ (k : Nat) (o : OLoc) (ys : List AV), L[k]? = some o → outs[k]? = some ys → outOk P (bare w' I') o ys)
mutual
theorem rep_shrink {P : Program} {E E' : Env} (hw : E'.w = E.w) : ∀ (x : AV) (v : Value), x.pure = true → (x.solid = true ∨ ∀ b, E.I b → E'.I b) → rep P E x v → rep P E' x v
  | .undef, _, _, _, _ => by simp [rep]
  | .bool b, v, _, _, h => by simpa [rep] using h
  | .int k n, v, _, _, h => by simpa [rep] using h
  | .str s, v, _, _, h => by simpa [rep] using h
  | .nil, v, _, _, h => by simpa [rep] using h
  | .sl t xs sp ex, v, hp, hI, h => by
    simp only [AV.pure, Bool.and_eq_true] at hp
    have hI : ∀ b, E.I b → E'.I b := hI.resolve_left (by simp [AV.solid])
    simp only [rep] at h ⊢
    obtain ⟨a, cap, h1, h2, h3, h7, vs, us, h4, h5, h6⟩ := h
    refine ⟨a, cap, h1, h2, h3, h7, vs, us, repL_shrink hw xs vs hp.1 (.inr hI) h4, repL_shrink hw sp us hp.2 (.inr hI) h5, fun hne => ?_⟩
    obtain ⟨b, off, c, fz, g1, g2, g3, g4⟩ := h6 hne
    exact ⟨b, off, c, fz, g1, hI b g2, by rw [hw]; exact g3, g4⟩
  | .ref .., _, hp, _, _ => by simp [AV.pure] at hp
  | .own .., _, hp, _, _ => by simp [AV.pure] at hp
  | .ptr .., _, hp, _, _ => by simp [AV.pure] at hp
  | .cptr t x j, v, hp, hI, h => by
    simp only [AV.pure] at hp
    have hI : ∀ b, E.I b → E'.I b := hI.resolve_left (by simp [AV.solid])
    simp only [rep] at h ⊢
    obtain ⟨b, off, c, fz, u, h1, h2, h3, h4, h6, h5⟩ := h
    exact ⟨b, off, c, fz, u, h1, hI b h2, by rw [hw]; exact h3, rep_shrink hw x u hp (.inr hI) h4, h6, h5⟩
  | .fn f first cap, v, hp, hI, h => by
    simp only [AV.pure, Bool.and_eq_true] at hp
    have hI : ∀ b, E.I b → E'.I b := hI.resolve_left (by simp [AV.solid])
    simp only [rep] at h ⊢
    obtain ⟨vs, us, h1, h2, h3⟩ := h
    exact ⟨vs, us, h1, repL_shrink hw first vs hp.1 (.inr hI) h2, repL_shrink hw cap us hp.2 (.inr hI) h3⟩
  | .agg cs, v, hp, hI, h => by
    simp only [AV.pure] at hp
    simp only [rep] at h ⊢
    obtain ⟨vs, h1, h2⟩ := h
    exact ⟨vs, h1, repL_shrink hw cs vs hp (hI.imp (fun h => by simpa [AV.solid] using h) id) h2⟩
  | .tup xs, v, hp, hI, h => by
    simp only [AV.pure] at hp
    simp only [rep] at h ⊢
    obtain ⟨vs, h1, h2⟩ := h
    exact ⟨vs, h1, repL_shrink hw xs vs hp (hI.imp (fun h => by simpa [AV.solid] using h) id) h2⟩
theorem repL_shrink {P : Program} {E E' : Env} (hw : E'.w = E.w) : ∀ (xs : List AV) (vs : List Value), AV.pureL xs = true → (AV.solidL xs = true ∨ ∀ b, E.I b → E'.I b) → repL P E xs vs → repL P E' xs vs
  | [], vs, _, _, h => by simpa [repL] using h
  | x :: xs, vs, hp, hI, h => by
    simp only [AV.pureL, Bool.and_eq_true] at hp
    simp only [AV.solidL, Bool.and_eq_true] at hI
    simp only [repL] at h ⊢
    obtain ⟨v, us, h1, h2, h3⟩ := h
    exact ⟨v, us, h1, rep_shrink hw x v hp.1 (hI.imp (·.1) id) h2, repL_shrink hw xs us hp.2 (hI.imp (·.2) id) h3⟩
end
mutual
theorem ownR_shrink {P : Program} {E E' : Env} (hw : E'.w = E.w) (hsub : ∀ b, E'.I b → E.I b) : ∀ (x : AV) (v : Value) (L : List OLoc), (x.solid = true ∨ ∀ b, E.I b → E'.I b) → ownR P E x v L → ownR P E' x v L
  | .own t xs sp ex, v, L, hI, h => by
    simp only [AV.solid, Bool.and_eq_true] at hI
    simp only [ownR] at h ⊢
    obtain ⟨l, L1, L2, vs, us, c, ad, h1, h2, h3, h4, h5, h6, h7, h8, h9, h10, h11⟩ := h
    exact ⟨l, L1, L2, vs, us, c, ad, h1, h2, h3, fun h => h4 (hsub _ h), h5, h6, h7,
      ownRL_shrink hw hsub xs vs L1 (hI.imp (·.1) id) h8, ownRL_shrink hw hsub sp us L2 (hI.imp (·.2) id) h9, by rw [hw]; exact h10, h11⟩
  | .agg cs, v, L, hI, h => by
    simp only [ownR] at h ⊢; obtain ⟨vs, h1, h2⟩ := h
    exact ⟨vs, h1, ownRL_shrink hw hsub cs vs L (hI.imp (fun h => by simpa [AV.solid] using h) id) h2⟩
  | .tup cs, v, L, hI, h => by
    simp only [ownR] at h ⊢; obtain ⟨vs, h1, h2⟩ := h
    exact ⟨vs, h1, ownRL_shrink hw hsub cs vs L (hI.imp (fun h => by simpa [AV.solid] using h) id) h2⟩
  | .undef, v, L, _, h => by simpa [ownR] using h
  | .bool b, v, L, _, h => by simpa [ownR, rep] using h
  | .int k n, v, L, _, h => by simpa [ownR, rep] using h
  | .str s, v, L, _, h => by simpa [ownR, rep] using h
  | .nil, v, L, _, h => by simpa [ownR, rep] using h
  | .sl t xs sp ex, v, L, hI, h => by simp only [ownR] at h ⊢; exact ⟨h.1, h.2.1, rep_shrink hw _ _ h.2.1 hI h.2.2⟩
  | .cptr t x j, v, L, hI, h => by simp only [ownR] at h ⊢; exact ⟨h.1, h.2.1, rep_shrink hw _ _ h.2.1 hI h.2.2⟩
  | .fn f a b, v, L, hI, h => by simp only [ownR] at h ⊢; exact ⟨h.1, h.2.1, rep_shrink hw _ _ h.2.1 hI h.2.2⟩
  | .ref .., v, L, _, h => by simp [ownR] at h
  | .ptr .., v, L, _, h => by simp [ownR] at h
theorem ownRL_shrink {P : Program} {E E' : Env} (hw : E'.w = E.w) (hsub : ∀ b, E'.I b → E.I b) : ∀ (xs : List AV) (vs : List Value) (L : List OLoc), (AV.solidL xs = true ∨ ∀ b, E.I b → E'.I b) → ownRL P E xs vs L → ownRL P E' xs vs L
  | [], vs, L, _, h => by simpa [ownRL] using h
  | x :: xs, vs, L, hI, h => by
    simp only [AV.solidL, Bool.and_eq_true] at hI
    simp only [ownRL] at h ⊢
    obtain ⟨v, us, L1, L2, h1, h2, h3, h4⟩ := h
    exact ⟨v, us, L1, L2, h1, h2, ownR_shrink hw hsub x v L1 (hI.imp (·.1) id) h3, ownRL_shrink hw hsub xs us L2 (hI.imp (·.2) id) h4⟩
end
inductive PM where
 | snap | io | eat
def passA (st : St) : PM → AV → Option (AV × List Nat × List (Nat × Nat × Nat) × List Nat)
 | .snap, a => (snapA st 8 a).map fun p => (p.1, p.2, [], [])
 | .io, .ref id n off len => if (st.h id).lv ∧ (st.h id).xs.length = n ∧ off + len ≤ n ∧ len ≠ 0 ∧ AV.pureL (((st.h id).xs.drop off).take len) then
   some (.own (st.h id).t (((st.h id).xs.drop off).take len) [] false, [], [(id, off, len)], []) else none
 | .io, _ => none
 | .eat, a => (ownA st 8 a).map fun p => (p.1, [], [], p.2)
def passL (st : St) : List PM → List AV → Option (List AV × List Nat × List (Nat × Nat × Nat) × List Nat)
 | [], [] => some ([], [], [], [])
 | m :: ms, a :: as0 => (passA st m a).bind fun p => (passL st ms as0).bind fun q => some (p.1 :: q.1, p.2.1 ++ q.2.1, p.2.2.1 ++ q.2.2.1, p.2.2.2 ++ q.2.2.2)
 | _, _ => none
def outH (h : Nat → Blk) : List (Nat × Nat × Nat) → List (List AV) → Nat → Blk
 | (id, off, len) :: os, ys :: yss => outH (upd h id { h id with xs := (h id).xs.take off ++ ys ++ (h id).xs.drop (off + len) }) os yss
 | _, _ => h
def eatH (h : Nat → Blk) (ids : List Nat) : Nat → Blk := fun i => if i ∈ ids then { h i with lv := false } else h i
structure CallStep (P : Program) (st : St) (g : FuncId) (as0 : List AV) (x : AV) (st' : St) : Prop where
  ex : ∃ pm sargs sids io eat r outs, passL st pm as0 = some (sargs, sids, io, eat) ∧ CallOk P g sargs r outs ∧
    (io.map (·.1) ++ eat).Nodup ∧ (∀ i ∈ sids, i ∉ io.map (·.1) ++ eat) ∧ (sids = [] ∨ r.solid = true ∧ AV.solidL outs.flatten = true) ∧
    (io = [] ∨ eat = [] ∧ outs.length = io.length) ∧
    (x, st') = matA true r { st with h := eatH (outH st.h io outs) eat }
mutual
theorem ownR_grow {P : Program} {E E' : Env} (hw : E'.w = E.w) (hsub : ∀ b, E.I b → E'.I b) : ∀ (x : AV) (v : Value) (L : List OLoc), (∀ o ∈ L, ¬ E'.I o.l.b) → ownR P E x v L → ownR P E' x v L
 | .own t xs sp ex, v, L, hL, h => by
  simp only [ownR] at h ⊢
  obtain ⟨l, L1, L2, vs, us, c, ad, rfl, h2, h3, h4, h5, h6, h7, h8, h9, h10, h11⟩ := h
  exact ⟨l, L1, L2, vs, us, c, ad, rfl, h2, h3, hL ⟨l, t, xs.length + sp.length⟩ (by simp), h5, h6, h7,
   ownRL_grow hw hsub xs vs L1 (fun o ho => hL o (by simp [ho])) h8, ownRL_grow hw hsub sp us L2 (fun o ho => hL o (by simp [ho])) h9, by rw [hw]; exact h10, h11⟩
 | .agg cs, v, L, hL, h => by simp only [ownR] at h ⊢; obtain ⟨vs, h1, h2⟩ := h; exact ⟨vs, h1, ownRL_grow hw hsub cs vs L hL h2⟩
 | .tup cs, v, L, hL, h => by simp only [ownR] at h ⊢; obtain ⟨vs, h1, h2⟩ := h; exact ⟨vs, h1, ownRL_grow hw hsub cs vs L hL h2⟩
 | .undef, v, L, _, h => by simpa [ownR] using h
 | .bool b, v, L, _, h => by simpa [ownR, rep] using h
 | .int k n, v, L, _, h => by simpa [ownR, rep] using h
 | .str s, v, L, _, h => by simpa [ownR, rep] using h
 | .nil, v, L, _, h => by simpa [ownR, rep] using h
 | .sl t xs sp ex, v, L, _, h => by simp only [ownR] at h ⊢; exact ⟨h.1, h.2.1, rep_pure (fun b hb => ⟨hsub b hb, by rw [hw]⟩) _ _ h.2.1 h.2.2⟩
 | .cptr t x j, v, L, _, h => by simp only [ownR] at h ⊢; exact ⟨h.1, h.2.1, rep_pure (fun b hb => ⟨hsub b hb, by rw [hw]⟩) _ _ h.2.1 h.2.2⟩
 | .fn f a b, v, L, _, h => by simp only [ownR] at h ⊢; exact ⟨h.1, h.2.1, rep_pure (fun b hb => ⟨hsub b hb, by rw [hw]⟩) _ _ h.2.1 h.2.2⟩
 | .ref .., v, L, _, h => by simp [ownR] at h
 | .ptr .., v, L, _, h => by simp [ownR] at h
theorem ownRL_grow {P : Program} {E E' : Env} (hw : E'.w = E.w) (hsub : ∀ b, E.I b → E'.I b) : ∀ (xs : List AV) (vs : List Value) (L : List OLoc), (∀ o ∈ L, ¬ E'.I o.l.b) → ownRL P E xs vs L → ownRL P E' xs vs L
 | [], vs, L, _, h => by simpa [ownRL] using h
 | x :: xs, vs, L, hL, h => by
  simp only [ownRL] at h ⊢
  obtain ⟨v, us, L1, L2, h1, rfl, h3, h4⟩ := h
  exact ⟨v, us, L1, L2, h1, rfl, ownR_grow hw hsub x v L1 (fun o ho => hL o (by simp [ho])) h3, ownRL_grow hw hsub xs us L2 (fun o ho => hL o (by simp [ho])) h4⟩
end
def ioL (P : Program) (E : Env) (q : Nat × Nat × Nat) : OLoc := ⟨⟨(E.m q.1).b, (E.m q.1).base + q.2.1 * szT P (E.h q.1).t, (E.m q.1).cap - q.2.1⟩, (E.h q.1).t, q.2.2⟩
structure PassOk (P : Program) (E : Env) (io : List (Nat × Nat × Nat)) (eat : List Nat) (L : List OLoc) : Prop where
  ios : ∀ q ∈ io, (E.h q.1).lv = true ∧ q.2.1 + q.2.2 ≤ (E.h q.1).xs.length ∧ q.2.2 ≠ 0
  eats : ∀ a ∈ eat, (E.h a).lv = true
  onlyIo : eat = [] → L = io.map (ioL P E)
  blocks : L.length = io.length + eat.length ∧ (io = [] → L.map (·.l) = eat.map E.m)
  each : ∀ o ∈ L, (∃ q ∈ io, o = ioL P E q) ∨ (∃ a ∈ eat, o.l = E.m a ∧ o.t = (E.h a).t ∧ o.n ≤ (E.h a).xs.length)
theorem passL_sound {P : Program} {E : Env} {st : St} (hE : Ok P E) (hh : st.h = E.h) (S : List Nat) (hS : ∀ i ∈ S, (E.h i).lv = true) : ∀ (pm : List PM) (as0 sargs : List AV) (sids : List Nat) (io : List (Nat × Nat × Nat)) (eat : List Nat) (vs : List Value),
    passL st pm as0 = some (sargs, sids, io, eat) → repL P E as0 vs → (∀ i ∈ sids, i ∈ S) → (∀ i ∈ S, i ∉ io.map (·.1) ++ eat) → ∃ L, ownRL P (E.shut S) sargs vs L ∧ PassOk P E io eat L := by
  have notin : ∀ id, (E.h id).lv = true → id ∉ S → ¬ (E.shut S).I (E.m id).b := by
    intro id hlv hn h
    rcases h with h | ⟨i, hi, h1, h2⟩
    · exact (hE.blk id hlv).dark h
    · exact hn (hE.inj i id h1 hlv h2 ▸ hi)
  intro pm
  induction pm with
  | nil =>
    intro as0 sargs sids io eat vs h hr _ _
    cases as0 with
    | cons _ _ => simp [passL] at h
    | nil =>
      simp only [passL, Option.some.injEq, Prod.mk.injEq] at h
      obtain ⟨rfl, rfl, rfl, rfl⟩ := h
      simp only [repL] at hr; subst hr
      exact ⟨[], by simp [ownRL], by simp, by simp, fun _ => rfl, ⟨rfl, fun _ => rfl⟩, by simp⟩
  | cons m pm ih =>
    intro as0 sargs sids io eat vs h hr hs hd
    cases as0 with
    | nil => simp [passL] at h
    | cons a as0 =>
      simp only [passL] at h
      obtain ⟨⟨y, i1, o1, e1⟩, h1, h⟩ := Option.bind_eq_some_iff.1 h
      obtain ⟨⟨ys, i2, o2, e2⟩, h2, h⟩ := Option.bind_eq_some_iff.1 h
      simp only [Option.some.injEq, Prod.mk.injEq] at h
      obtain ⟨rfl, rfl, rfl, rfl⟩ := h
      simp only [repL] at hr
      obtain ⟨v, us, rfl, hv, hus⟩ := hr
      obtain ⟨L2, r2, q2⟩ := ih as0 ys i2 o2 e2 us h2 hus (fun i hi => hs i (by simp [hi])) (fun i hi hm => hd i hi (by simp only [List.mem_append, List.map_append] at hm ⊢; rcases hm with h | h <;> simp [h]))
      have fin : ∀ L1, ownR P (E.shut S) y v L1 → PassOk P E o1 e1 L1 → (o1 = [] ∧ e1 = [] ∧ L1 = [] ∨ (o1 = [] ∨ e1 = [])) → ∃ L, ownRL P (E.shut S) (y :: ys) (v :: us) L ∧ PassOk P E (o1 ++ o2) (e1 ++ e2) L := by
        intro L1 r1 q1 _
        refine ⟨L1 ++ L2, by simp only [ownRL]; exact ⟨v, us, L1, L2, rfl, rfl, r1, r2⟩, fun q hq => (List.mem_append.1 hq).elim (q1.ios q) (q2.ios q), fun a ha => (List.mem_append.1 ha).elim (q1.eats a) (q2.eats a), fun he => ?_, ⟨?_, fun he => ?_⟩, fun o ho => ?_⟩
        · have := List.append_eq_nil_iff.1 he
          rw [q1.onlyIo this.1, q2.onlyIo this.2, List.map_append]
        · simp only [List.length_append]; have := q1.blocks.1; have := q2.blocks.1; omega
        · have := List.append_eq_nil_iff.1 he
          rw [List.map_append, List.map_append, q1.blocks.2 this.1, q2.blocks.2 this.2]
        · rcases List.mem_append.1 ho with ho | ho
          · rcases q1.each o ho with ⟨q, hq, h⟩ | ⟨a, ha, h⟩
            · exact .inl ⟨q, by simp [hq], h⟩
            · exact .inr ⟨a, by simp [ha], h⟩
          · rcases q2.each o ho with ⟨q, hq, h⟩ | ⟨a, ha, h⟩
            · exact .inl ⟨q, by simp [hq], h⟩
            · exact .inr ⟨a, by simp [ha], h⟩
      cases m with
      | snap =>
        simp only [passA, Option.map_eq_some_iff, Prod.mk.injEq] at h1
        obtain ⟨⟨y', i'⟩, hsn, rfl, rfl, rfl, rfl⟩ := h1
        obtain ⟨p1, p2, p3⟩ := snapA_sound hE hh 8 a y' i' v hsn hv
        exact fin [] (ownR_of_pure _ _ p1 (shut_mono (fun x hx => hs x (by simp [hx])) p1 p2)) ⟨by simp, by simp, fun _ => rfl, ⟨rfl, fun _ => rfl⟩, by simp⟩ (.inr (.inl rfl))
      | io =>
        cases a <;> simp only [passA] at h1 <;> try (simp at h1; done)
        rename_i id n off len
        split at h1
        · rename_i hc
          rw [hh] at hc h1
          simp only [Option.some.injEq, Prod.mk.injEq] at h1
          obtain ⟨rfl, rfl, rfl, rfl⟩ := h1
          obtain ⟨hlv, hn, hle, hl0, hpure⟩ := hc
          have B := hE.blk id hlv
          obtain ⟨c, ws, hb, hrl, hca, hcs⟩ := B.at_
          simp only [rep] at hv
          obtain ⟨hid, hnl, ad, k, rfl, hv⟩ := hv
          obtain ⟨g1, g2, g3⟩ := hv hlv hn
          have hBle := B.le
          have hwl : (((E.h id).xs.drop off).take len).length = len := by rw [List.length_take, List.length_drop]; omega
          have hns : id ∉ S := fun hi => hd id hi (by simp)
          refine fin [⟨⟨(E.m id).b, (E.m id).base + off * szT P (E.h id).t, (E.m id).cap - off⟩, (E.h id).t, (((E.h id).xs.drop off).take len).length + ([] : List AV).length⟩] ?_ ⟨?_, by simp, fun _ => ?_, ⟨rfl, fun h => by simp at h⟩, fun o ho => ?_⟩ (.inr (.inr rfl))
          · simp only [ownR]
            refine ⟨_, [], [], (ws.drop off).take len, [], c, ad, rfl, by rw [hwl, g2], fun hk => g3 (by rw [g2]; exact hk), notin id hlv hns, by rw [hwl]; simp; omega, by simp, fun x hx => ?_, ?_, by simp [ownRL], hb, ?_, ?_⟩
            · exact B.cl x (List.mem_of_mem_drop (List.mem_of_mem_take (by simpa using hx)))
            · refine ownRL_of_pure _ _ hpure (repL_pure (E := E) (E' := E.shut S) (fun b hb => ⟨Or.inl hb, rfl⟩) _ _ hpure (repL_take (repL_drop hrl off) len))
            · rw [List.append_nil]; exact (hca.drop off).take len
            · have : (E.m id).base + off * szT P (E.h id).t + ((E.m id).cap - off) * szT P (E.h id).t = (E.m id).base + (E.m id).cap * szT P (E.h id).t := by
                rw [Nat.add_assoc, ← Nat.add_mul]; congr 2; omega
              show (E.m id).base + off * szT P (E.h id).t + ((E.m id).cap - off) * szT P (E.h id).t ≤ c.size
              omega
          · intro q hq
            simp only [List.mem_singleton] at hq; subst hq
            exact ⟨hlv, by simp only; omega, hl0⟩
          · simp [ioL, hwl]
          · simp only [List.mem_singleton] at ho; subst ho
            exact .inl ⟨(id, off, len), by simp, by simp [ioL, hwl]⟩
        · cases h1
      | eat =>
        simp only [passA, Option.map_eq_some_iff, Prod.mk.injEq] at h1
        obtain ⟨⟨y', i'⟩, hown, rfl, rfl, rfl, rfl⟩ := h1
        obtain ⟨L1, p1, p2, p3, p4⟩ := ownA_sound hE hh 8 a y' i' v hown hv
        refine fin L1 (ownR_grow (E := E) (E' := E.shut S) rfl (fun b hb => Or.inl hb) _ _ _ (fun o ho => ?_) p1) ⟨by simp, fun a ha => (p2 a ha).1, fun he => ?_, ⟨?_, fun _ => p3⟩, fun o ho => ?_⟩ (.inr (.inl rfl))
        · obtain ⟨a, ha, h1, _⟩ := p4 o ho
          rw [h1]
          exact notin a (p2 a ha).1 (fun hi => hd a hi (by simp [ha]))
        · subst he
          have := congrArg List.length p3
          simp only [List.length_map, List.map_nil, List.length_nil] at this
          simpa using List.length_eq_zero_iff.1 this
        · have := congrArg List.length p3
          simp only [List.length_map] at this
          simp [this]
        · obtain ⟨a, ha, h1, h2, h3⟩ := p4 o ho
          exact .inr ⟨a, ha, h1, h2, h3⟩
theorem outH_spec : ∀ (io : List (Nat × Nat × Nat)) (outs : List (List AV)) (h : Nat → Blk), (io.map (·.1)).Nodup → outs.length = io.length →
    (∀ i, i ∉ io.map (·.1) → outH h io outs i = h i) ∧
    (∀ (k : Nat) (q : Nat × Nat × Nat) (ys : List AV), io[k]? = some q → outs[k]? = some ys → outH h io outs q.1 = { h q.1 with xs := (h q.1).xs.take q.2.1 ++ ys ++ (h q.1).xs.drop (q.2.1 + q.2.2) })
  | [], outs, h, _, _ => ⟨fun i _ => by cases outs <;> rfl, fun k q ys hk => by simp at hk⟩
  | (id, off, len) :: io, outs, h, hnd, hl => by
    cases outs with
    | nil => simp at hl
    | cons ys yss =>
      simp only [List.map_cons, List.nodup_cons] at hnd
      obtain ⟨h1, h2⟩ := outH_spec io yss (upd h id { h id with xs := (h id).xs.take off ++ ys ++ (h id).xs.drop (off + len) }) hnd.2 (by simpa using hl)
      refine ⟨fun i hi => ?_, fun k q zs hk hz => ?_⟩
      · simp only [List.map_cons, List.mem_cons, not_or] at hi
        simp only [outH]
        rw [h1 i hi.2, upd_ne _ _ hi.1]
      · cases k with
        | zero =>
          simp only [List.getElem?_cons_zero, Option.some.injEq] at hk hz
          subst hk; subst hz
          simp only [outH]
          rw [h1 id hnd.1]
          simp [upd]
        | succ k =>
          simp only [List.getElem?_cons_succ] at hk hz
          have := h2 k q zs hk hz
          simp only [outH]
          rw [this]
          have hne : q.1 ≠ id := fun e => hnd.1 (e ▸ List.mem_map_of_mem (List.mem_of_getElem? hk))
          rw [upd_ne _ _ hne]
theorem Goes.mat {P : Program} {g : Bool} {E E1 E2 : Env} {L : List OLoc} (h1 : Ok P E1) (h : Goes P E E1) (hm : MatOk P g E1 E2 L) (hL : ∀ o ∈ L, E.w.heap.size ≤ o.l.b) (hnx : E1.nx = E.nx) : Goes P E E2 := by
  refine ⟨by rw [hm.w]; exact h.os, by rw [hm.w]; exact h.tape, by rw [hm.w]; exact h.output, by rw [hm.w]; exact h.size, fun b hb hn => by rw [hm.w]; exact h.keep b hb hn, fun id hid c hc => by rw [hm.w]; exact h.part id hid c hc, fun id hid => ?_, fun b hb => h.dark b (by rw [← hm.I]; exact hb), by rw [← hnx]; exact hm.le.nx, fun id hid => ?_⟩
  · by_cases hlt : id < E1.nx
    · obtain ⟨e1, e2⟩ := hm.old id hlt
      rw [e2] at hid
      rcases h.locs id hid with ⟨a1, a2, a3, a4⟩ | ⟨a1, a2⟩
      · refine .inl ⟨a1, e1.trans a2, by rw [e2]; exact a3, ?_⟩
        rw [← a4]; simp [Env.lim, e1, e2]
      · exact .inr ⟨by rw [e1]; exact a1, a2⟩
    · rcases hm.new id hid with ⟨a1, _, _⟩ | ⟨o, ho, a1, _⟩
      · exact absurd (h1.blk id a1).lt hlt
      · exact .inr ⟨by rw [a1]; exact hL o ho, .inl (by omega)⟩
  · have := (hm.old id (by omega)).2
    rw [this]; exact h.grs id hid
theorem eatH_at (h : Nat → Blk) (ids : List Nat) (i : Nat) : (eatH h ids i).t = (h i).t ∧ (eatH h ids i).xs = (h i).xs ∧ (eatH h ids i).ex = (h i).ex ∧ (eatH h ids i).gr = (h i).gr ∧
  ((eatH h ids i).lv = true ↔ (h i).lv = true ∧ i ∉ ids) := by
 unfold eatH; split <;> simp_all
theorem solidL_append : ∀ a b : List AV, AV.solidL (a ++ b) = (AV.solidL a && AV.solidL b)
 | [], b => by simp [AV.solidL]
 | x :: a, b => by simp [AV.solidL, solidL_append a b, Bool.and_assoc]
theorem solidL_mem : ∀ (yss : List (List AV)), AV.solidL yss.flatten = true → ∀ ys ∈ yss, AV.solidL ys = true
  | [], _, ys, h => by simp at h
  | z :: zs, hs, ys, h => by
    rw [List.flatten_cons, solidL_append, Bool.and_eq_true] at hs
    rcases List.mem_cons.1 h with rfl | h
    · exact hs.1
    · exact solidL_mem zs hs.2 ys h
theorem call_behind {P : Program} {E : Env} (hE : Ok P E) {w' : World} {I' : Nat → Prop} {S : List Nat} {io : List (Nat × Nat × Nat)} {eat : List Nat} {L : List OLoc} {outs : List (List AV)}
    (hp : PassOk P E io eat L) (hnd : (io.map (·.1) ++ eat).Nodup) (hS : ∀ i ∈ S, (E.h i).lv = true) (hdis : ∀ i ∈ S, i ∉ io.map (·.1) ++ eat) (hty : S = [] ∨ AV.solidL outs.flatten = true)
    (hF : Frm P E.w w' L) (hI1 : ∀ b, (E.shut S).I b → I' b) (hI2 : ∀ b, I' b → (E.shut S).I b ∨ E.w.heap.size ≤ b) (hI3 : ∀ b, I' b → b < w'.heap.size)
    (hio : io = [] ∨ eat = [] ∧ outs.length = io.length)
    (ho : outs = [] ∨ outs.length = L.length ∧ ∀ (k : Nat) (o : OLoc) (ys : List AV), L[k]? = some o → outs[k]? = some ys → outOk P (bare w' I') o ys) :
    let E1 : Env := ⟨w', fun b => E.I b ∨ (E.w.heap.size ≤ b ∧ I' b), E.m, eatH (outH E.h io outs) eat, E.nx⟩
    E.Le E1 ∧ Ok P E1 ∧ Goes P E E1 ∧ ∀ id, (E1.h id).lv = true → (E.h id).lv = true := by
  intro E1
  rw [List.nodup_append] at hnd
  obtain ⟨hnd1, hnd2, hnd3⟩ := hnd
  have hmb : ∀ id, (E.h id).lv = true → (E.m id).b < E.w.heap.size := fun id h => by
    obtain ⟨c, vs, h1, _⟩ := (hE.blk id h).at_; exact lt_of_heap h1
  have hLb : ∀ o ∈ L, ∃ a, (E.h a).lv = true ∧ a ∈ io.map (·.1) ++ eat ∧ o.l.b = (E.m a).b ∧ o.t = (E.h a).t ∧
      (E.m a).base ≤ o.l.base ∧ o.l.base + o.n * szT P o.t ≤ (E.m a).base + (E.h a).xs.length * szT P (E.h a).t := by
    intro o ho
    rcases hp.each o ho with ⟨q, hq, rfl⟩ | ⟨a, ha, h1, h2, h3⟩
    · obtain ⟨g1, g2, g3⟩ := hp.ios q hq
      refine ⟨q.1, g1, List.mem_append_left _ (List.mem_map_of_mem hq), rfl, rfl, by simp [ioL], ?_⟩
      simp only [ioL]
      rw [Nat.add_assoc, ← Nat.add_mul]
      exact Nat.add_le_add_left (Nat.mul_le_mul_right _ g2) _
    · refine ⟨a, hp.eats a ha, List.mem_append_right _ ha, by rw [h1], h2, by rw [h1]; exact Nat.le_refl _, ?_⟩
      rw [h1, h2]
      exact Nat.add_le_add_left (Nat.mul_le_mul_right _ h3) _
  have hsame : ∀ id, (E.h id).lv = true → id ∉ io.map (·.1) ++ eat → w'.heap[(E.m id).b]? = E.w.heap[(E.m id).b]? := by
    intro id hlv hn
    refine hF.same _ (hmb id hlv) fun o ho e => ?_
    obtain ⟨a, h1, h2, h3, _⟩ := hLb o ho
    exact hn (hE.inj a id h1 hlv (by rw [← h3]; exact e) ▸ h2)
  have hdark : ∀ b, E.I b → w'.heap[b]? = E.w.heap[b]? := by
    intro b hb
    refine hF.same _ (hE.imm b hb) fun o ho e => ?_
    obtain ⟨a, h1, _, h3, _⟩ := hLb o ho
    exact (hE.blk a h1).dark (by rw [← h3, e]; exact hb)
  have hH : ∀ i, (E1.h i).t = (E.h i).t ∧ (E1.h i).ex = (E.h i).ex ∧ (E1.h i).gr = (E.h i).gr ∧ (E1.h i).xs.length = (E.h i).xs.length ∧ ((E1.h i).lv = true → (E.h i).lv = true ∧ i ∉ eat) ∧
      (i ∉ io.map (·.1) → (E1.h i).xs = (E.h i).xs) := by
    intro i
    obtain ⟨a1, a2, a3, a4, a5⟩ := eatH_at (outH E.h io outs) eat i
    show (eatH (outH E.h io outs) eat i).t = _ ∧ _
    have key : (outH E.h io outs i).t = (E.h i).t ∧ (outH E.h io outs i).ex = (E.h i).ex ∧ (outH E.h io outs i).gr = (E.h i).gr ∧ (outH E.h io outs i).lv = (E.h i).lv ∧
        (outH E.h io outs i).xs.length = (E.h i).xs.length ∧ (i ∉ io.map (·.1) → (outH E.h io outs i).xs = (E.h i).xs) := by
      rcases hio with rfl | ⟨he, hl⟩
      · cases outs <;> simp [outH]
      · obtain ⟨s1, s2⟩ := outH_spec io outs E.h hnd1 hl
        by_cases hi : i ∈ io.map (·.1)
        · obtain ⟨q, hq, rfl⟩ := List.mem_map.1 hi
          obtain ⟨k, hk⟩ := List.getElem?_of_mem hq
          have hkl : k < outs.length := by
            rw [hl]
            rcases Nat.lt_or_ge k io.length with h | h
            · exact h
            · rw [List.getElem?_eq_none h] at hk; cases hk
          have e := s2 k q _ hk (List.getElem?_eq_getElem hkl)
          have hL : L = io.map (ioL P E) := hp.onlyIo he
          have hLk : L[k]? = some (ioL P E q) := by rw [hL, List.getElem?_map, hk]; rfl
          have hlen : outs[k].length = q.2.2 := by
            rcases ho with h | ⟨_, h⟩
            · rw [h] at hkl; simp at hkl
            · exact (h k _ _ hLk (List.getElem?_eq_getElem hkl)).1
          obtain ⟨g1, g2, g3⟩ := hp.ios q hq
          rw [e]
          refine ⟨rfl, rfl, rfl, rfl, ?_, fun h => absurd hi h⟩
          have := splice_length (l := (E.h q.1).xs) (ns := outs[k]) (o := q.2.1) (by omega)
          rw [hlen] at this; exact this
        · rw [s1 i hi]; exact ⟨rfl, rfl, rfl, rfl, rfl, fun _ => rfl⟩
    obtain ⟨k1, k2, k3, k4, k5, k6⟩ := key
    refine ⟨a1.trans k1, a3.trans k2, a4.trans k3, by rw [show (E1.h i).xs = (outH E.h io outs i).xs from a2]; exact k5, fun h => ?_, fun h => a2.trans (k6 h)⟩
    obtain ⟨h1, h2⟩ := a5.1 h
    exact ⟨by rw [← k4]; exact h1, h2⟩
  have hlim : ∀ i, E1.lim i = E.lim i := fun i => by
    obtain ⟨_, _, h3, h4, _⟩ := hH i
    simp only [Env.lim, h3, h4]; rfl
  have hLe : E.Le E1 := by
    refine ⟨Nat.le_refl _, fun b hb => ⟨.inl hb, hdark b hb⟩, fun i hi => Nat.le_of_eq (hH i).2.2.2.1.symm, fun i hi n hn h1 h2 => ?_⟩
    obtain ⟨a1, a2, a3, a4, a5, _⟩ := hH i
    exact ⟨(a5 h1).1, by rw [← a4]; exact h2, a1, rfl⟩
  have hnotI : ∀ id, (E.h id).lv = true → ¬ E1.I (E.m id).b := by
    rintro id hlv (h | ⟨h, _⟩)
    · exact (hE.blk id hlv).dark h
    · exact absurd (hmb id hlv) (by omega)
  refine ⟨hLe, ⟨fun id hid => ?_, fun i j hi hj hij => hE.inj i j ((hH i).2.2.2.2.1 hi).1 ((hH j).2.2.2.2.1 hj).1 hij, fun b hb => ?_, hE.tab.le hLe⟩, ?_⟩
  · obtain ⟨a1, a2, a3, a4, a5, a6⟩ := hH id
    obtain ⟨hlv, hne⟩ := a5 hid
    have B := hE.blk id hlv
    by_cases hi : id ∈ io.map (·.1)
    · -- a block that was written
      obtain ⟨q, hq, rfl⟩ := List.mem_map.1 hi
      rcases hio with rfl | ⟨he, hl⟩
      · simp at hq
      · obtain ⟨k, hk⟩ := List.getElem?_of_mem hq
        have hkl : k < outs.length := by
          rw [hl]
          rcases Nat.lt_or_ge k io.length with h | h
          · exact h
          · rw [List.getElem?_eq_none h] at hk; cases hk
        have hL : L = io.map (ioL P E) := hp.onlyIo he
        have hLk : L[k]? = some (ioL P E q) := by rw [hL, List.getElem?_map, hk]; rfl
        have hok : outOk P (bare w' I') (ioL P E q) outs[k] := by
          rcases ho with h | ⟨_, h⟩
          · rw [h] at hkl; simp at hkl
          · exact h k _ _ hLk (List.getElem?_eq_getElem hkl)
        obtain ⟨o1, o2, o3, c1, ws, o4, o5, o6⟩ := hok
        obtain ⟨g1, g2, g3⟩ := hp.ios q hq
        obtain ⟨c, vs, hb, hrl, hca, hcs⟩ := B.at_
        obtain ⟨c', p1, p2, p3⟩ := hF.part (ioL P E q) (List.mem_of_getElem? hLk) c hb
        have hcc : c' = c1 := by
          have := p1.symm.trans o4
          simpa using this
        subst hcc
        have hxs : (E1.h q.1).xs = (E.h q.1).xs.take q.2.1 ++ outs[k] ++ (E.h q.1).xs.drop (q.2.1 + q.2.2) := by
          have e := (outH_spec io outs E.h hnd1 hl).2 k q _ hk (List.getElem?_eq_getElem hkl)
          have := (eatH_at (outH E.h io outs) eat q.1).2.1
          show (eatH (outH E.h io outs) eat q.1).xs = _
          rw [this, e]
        have hoq : outs[k].length = q.2.2 := o1
        have hys : repL P E1 outs[k] ws := by
          refine repL_shrink (E := bare w' I') (E' := E1) rfl _ _ o2 (hty.elim (fun he => .inr fun b hb' => ?_) fun he => .inl (solidL_mem outs he _ (List.getElem_mem hkl))) o5
          rcases hI2 b hb' with (h | ⟨i, hi, h1, h2⟩) | h
          · exact .inl h
          · rw [he] at hi; simp at hi
          · exact .inr ⟨h, hb'⟩
        refine ⟨B.lt, by rw [a3]; exact B.gr, by rw [a2, a4]; exact B.ex, by rw [a4]; exact B.le, ?_, hnotI _ hlv, ⟨c', vs.take q.2.1 ++ ws ++ vs.drop (q.2.1 + q.2.2), by rw [a1]; exact o4, ?_, ?_, ?_⟩⟩
        · rw [hxs, a1]
          intro x hx
          simp only [List.mem_append] at hx
          rcases hx with (hx | hx) | hx
          · exact B.cl x (List.mem_of_mem_take hx)
          · exact o3 x hx
          · exact B.cl x (List.mem_of_mem_drop hx)
        · rw [hxs]
          have := repL_mono hLe _ _ hrl
          exact repL_append (repL_append (repL_take this _) hys) (repL_drop this _)
        · rw [a1]
          have hvl := repL_length hrl
          have hwl := repL_length o5
          have hfw : (flat ws).length = q.2.2 * szT P (E.h q.1).t := by rw [flat_length o6.sizes, hwl, hoq]; rfl
          have hfv : (flat vs).length = (E.h q.1).xs.length * szT P (E.h q.1).t := by rw [flat_length hca.sizes, hvl]
          have hmul : (q.2.1 + q.2.2) * szT P (E.h q.1).t ≤ (E.h q.1).xs.length * szT P (E.h q.1).t := Nat.mul_le_mul_right _ g2
          have hm2 : (q.2.1 + q.2.2) * szT P (E.h q.1).t = q.2.1 * szT P (E.h q.1).t + q.2.2 * szT P (E.h q.1).t := Nat.add_mul _ _ _
          refine CellsAt.of_flat (fun v hv => ?_) fun p u hp' => ?_
          · simp only [List.mem_append] at hv
            rcases hv with (hv | hv) | hv
            · exact hca.sizes v (List.mem_of_mem_take hv)
            · exact o6.sizes v hv
            · exact hca.sizes v (List.mem_of_mem_drop hv)
          · rw [flat_append, flat_append, flat_take _ hca.sizes, flat_drop _ hca.sizes, hm2, ← hfw] at hp'
            rw [splice_get (by omega)] at hp'
            by_cases q1 : p < q.2.1 * szT P (E.h q.1).t
            · rw [if_pos q1] at hp'
              show c'[(E.m q.1).base + p]? = some u
              rw [p3 _ (.inl (by show _ < (E.m q.1).base + q.2.1 * szT P (E.h q.1).t; omega))]
              exact hca.flat_get p u hp'
            · rw [if_neg q1] at hp'
              by_cases q2 : p < q.2.1 * szT P (E.h q.1).t + (flat ws).length
              · rw [if_pos q2] at hp'
                have := o6.flat_get _ u hp'
                rw [← this]
                show c'[(E.m q.1).base + p]? = c'[(E.m q.1).base + q.2.1 * szT P (E.h q.1).t + (p - q.2.1 * szT P (E.h q.1).t)]?
                congr 1; omega
              · rw [if_neg q2] at hp'
                show c'[(E.m q.1).base + p]? = some u
                rw [p3 _ (.inr (by show (E.m q.1).base + q.2.1 * szT P (E.h q.1).t + q.2.2 * szT P (E.h q.1).t ≤ _; omega))]
                exact hca.flat_get p u hp'
        · rw [a1, p2]; exact hcs
    · have hn : id ∉ io.map (·.1) ++ eat := fun h => (List.mem_append.1 h).elim hi hne
      have hh : E1.h id = E.h id := by
        have e1 := a6 hi
        have e2 : (E1.h id).lv = (E.h id).lv := by rw [hid, hlv]
        cases hx : E1.h id; cases hy : E.h id
        rw [hx] at a1 a2 a3 e1 e2; rw [hy] at a1 a2 a3 e1 e2
        simp only at a1 a2 a3 e1 e2
        subst a1; subst a2; subst a3; subst e1; subst e2; rfl
      exact B.move hLe hh rfl (hsame id hlv hn) (hnotI id hlv)
  · rcases hb with h | ⟨_, h⟩
    · exact Nat.lt_of_lt_of_le (hE.imm b h) hF.size
    · exact hI3 b h
  · refine ⟨?_, fun id hid => ((hH id).2.2.2.2.1 hid).1⟩
    refine ⟨hF.os, hF.tape, hF.output, hF.size, fun b hb hn => hF.same b hb fun o ho e => ?_, fun id hid c hc => ?_, fun id hid => ?_, fun b hb => hb.imp id (fun h => .inl h.1), Nat.le_refl _, fun id _ => (hH id).2.2.1⟩
    · obtain ⟨a, h1, _, h3, _⟩ := hLb o ho
      exact hn a h1 (by rw [← h3]; exact e)
    · by_cases hm : ∃ o ∈ L, o.l.b = (E.m id).b
      · obtain ⟨o, ho', e⟩ := hm
        obtain ⟨a, h1, _, h3, h4, h5, h6⟩ := hLb o ho'
        have : a = id := hE.inj a id h1 hid (by rw [← h3]; exact e)
        subst this
        obtain ⟨c', p1, p2, p3⟩ := hF.part o ho' c (by rw [e, h4]; exact hc)
        rw [e, h4] at p1
        refine ⟨c', p1, p2, fun j hj => p3 j ?_⟩
        have hl : (E.h a).xs.length * szT P (E.h a).t ≤ E.lim a * szT P (E.h a).t := Nat.mul_le_mul_right _ (by
          have := (hE.blk a h1).le
          unfold Env.lim; split <;> omega)
        omega
      · exact ⟨c, (hF.same _ (hmb id hid) fun o ho e => hm ⟨o, ho, e⟩).trans hc, rfl, fun _ _ => rfl⟩
    · obtain ⟨a1, a2, a3, a4, a5, a6⟩ := hH id
      exact .inl ⟨(a5 hid).1, rfl, a1, hlim id⟩
theorem call_sound {P : Program} {E : Env} {st st' : St} {g : FuncId} {as0 : List AV} {vs : List Value} {x : AV} (hE : Ok P E) (hh : st.h = E.h) (hnx : st.nx = E.nx) (has : repL P E as0 vs) (h : CallStep P st g as0 x st') :
    st'.fr = st.fr ∧ Calls P g vs.toArray E.w fun e w' => ∃ v E', e = .returned v ∧ E'.w = w' ∧ E'.h = st'.h ∧ E'.nx = st'.nx ∧ E.Le E' ∧ Ok P E' ∧ Goes P E E' ∧ rep P E' x v := by
  obtain ⟨pm, sargs, sids, io, eat, r, outs, h1, h2, h3, h4, h5, h6, h7⟩ := h.ex
  have hxst : x = (matA true r { st with h := eatH (outH st.h io outs) eat }).1 ∧ st' = (matA true r { st with h := eatH (outH st.h io outs) eat }).2 := by
    exact ⟨congrArg Prod.fst h7, congrArg Prod.snd h7⟩
  obtain ⟨rfl, rfl⟩ := hxst
  have hlive : ∀ i ∈ sids, (E.h i).lv = true := by
    have : ∀ (pm : List PM) (as0 sargs : List AV) (sids : List Nat) (io : List (Nat × Nat × Nat)) (eat : List Nat) (vs : List Value), passL st pm as0 = some (sargs, sids, io, eat) → repL P E as0 vs → ∀ i ∈ sids, (E.h i).lv = true := by
      intro pm
      induction pm with
      | nil => intro as0 sargs sids io eat vs h _ i hi; cases as0 with
        | nil => simp only [passL, Option.some.injEq, Prod.mk.injEq] at h; rw [← h.2.1] at hi; simp at hi
        | cons _ _ => simp [passL] at h
      | cons m pm ih =>
        intro as0 sargs sids io eat vs h hr i hi
        cases as0 with
        | nil => simp [passL] at h
        | cons a as0 =>
          simp only [passL] at h
          obtain ⟨⟨y, i1, o1, e1⟩, h1, h⟩ := Option.bind_eq_some_iff.1 h
          obtain ⟨⟨ys, i2, o2, e2⟩, h2, h⟩ := Option.bind_eq_some_iff.1 h
          simp only [Option.some.injEq, Prod.mk.injEq] at h
          obtain ⟨rfl, rfl, rfl, rfl⟩ := h
          simp only [repL] at hr
          obtain ⟨v, us, rfl, hv, hus⟩ := hr
          rcases List.mem_append.1 hi with hi | hi
          · cases m with
            | snap =>
              simp only [passA, Option.map_eq_some_iff, Prod.mk.injEq] at h1
              obtain ⟨⟨y', i'⟩, hsn, rfl, rfl, rfl, rfl⟩ := h1
              exact (snapA_sound hE hh 8 a y' i' v hsn hv).2.2 i hi
            | io =>
              cases a <;> simp only [passA] at h1 <;> try (simp at h1; done)
              split at h1
              · simp only [Option.some.injEq, Prod.mk.injEq] at h1
                rw [← h1.2.1] at hi; simp at hi
              · cases h1
            | eat =>
              simp only [passA, Option.map_eq_some_iff, Prod.mk.injEq] at h1
              obtain ⟨_, _, _, rfl, _⟩ := h1
              simp at hi
          · exact ih as0 ys i2 o2 e2 us h2 hus i hi
    exact this pm as0 sargs sids io eat vs h1 has
  obtain ⟨L, r1, r2⟩ := passL_sound hE hh sids hlive pm as0 sargs sids io eat vs h1 has (fun _ h => h) h4
  have hmb : ∀ id, (E.h id).lv = true → (E.m id).b < E.w.heap.size := fun id h => by
    obtain ⟨c, vs, h1, _⟩ := (hE.blk id h).at_; exact lt_of_heap h1
  have hIc : ∀ b, (E.shut sids).I b → b < E.w.heap.size := by
    rintro b (h | ⟨i, _, h1, h2⟩)
    · exact hE.imm b h
    · rw [← h2]; exact hmb i h1
  have hLnd : (L.map (·.l.b)).Nodup := by
    have hnd := h3
    rw [List.nodup_append] at hnd
    have inj : ∀ (ids : List Nat), (∀ i ∈ ids, (E.h i).lv = true) → ids.Nodup → (ids.map fun i => (E.m i).b).Nodup := by
      intro ids
      induction ids with
      | nil => simp
      | cons a ids ih =>
        intro hl hn
        simp only [List.nodup_cons, List.map_cons] at hn ⊢
        refine ⟨fun hm => ?_, ih (fun i hi => hl i (by simp [hi])) hn.2⟩
        obtain ⟨j, hj, e⟩ := List.mem_map.1 hm
        exact hn.1 (hE.inj j a (hl j (by simp [hj])) (hl a (by simp)) e ▸ hj)
    rcases h6 with rfl | ⟨rfl, _⟩
    · have := r2.blocks.2 rfl
      have e : L.map (·.l.b) = eat.map fun i => (E.m i).b := by
        have := congrArg (List.map Loc.b) this
        simpa [List.map_map, Function.comp_def] using this
      rw [e]; exact inj eat r2.eats hnd.2.1
    · rw [r2.onlyIo rfl]
      have e : (io.map (ioL P E)).map (·.l.b) = (io.map (·.1)).map fun i => (E.m i).b := by simp [List.map_map, Function.comp_def, ioL]
      rw [e]
      exact inj _ (fun i hi => by obtain ⟨q, hq, rfl⟩ := List.mem_map.1 hi; exact (r2.ios q hq).1) hnd.1
  have hcall := h2 E.w (E.shut sids).I vs L ⟨hIc, hE.tab.step fun b hb => ⟨.inl hb, rfl⟩⟩ (ownRL_move (E := E.shut sids) (E' := bare E.w (E.shut sids).I) rfl rfl _ _ _ r1) hLnd
  refine ⟨?_, hcall.mono fun e w' hpost => ?_⟩
  · -- the frame's values stay
    have : ∀ (x : AV) (st : St), (matA true x st).2.fr = st.fr := by
      intro x st
      exact matA_fr true x st
    rw [this]
  · obtain ⟨v, I', L', rfl, q1, q2, q3, q4, q5, q6, q7, q8⟩ := hpost
    obtain ⟨e1, e2, e3, e4⟩ := call_behind (w' := w') (I' := I') (S := sids) (outs := outs) hE r2 h3 hlive h4 (h5.imp id (·.2)) q1 q2 q3 q4 h6 q8
    have hsh := ownR_shrink (E := bare w' I') (E' := ⟨w', fun b => E.I b ∨ (E.w.heap.size ≤ b ∧ I' b), E.m, eatH (outH E.h io outs) eat, E.nx⟩) rfl
      (fun b hb => hb.elim (fun h => q2 b (.inl h)) (·.2)) r v L' (h5.elim (fun he => .inr fun b hb => ?_) fun he => .inl he.1) q5
    · obtain ⟨m', M1, r3, _, _⟩ := matA_sound (g := true) r v L' { st with h := eatH (outH st.h io outs) eat } _ e2 (by rw [hh]) hnx.symm hsh ⟨q6, fun o ho id hid => by
          have := (q7 o ho).1
          have hl : (E.h id).lv = true := e4 id hid
          show (E.m id).b ≠ o.l.b
          have := hmb id hl
          omega⟩ (fun _ o ho => (q7 o ho).2)
      exact ⟨v, _, rfl, rfl, rfl, rfl, e1.trans M1.le, M1.ok, e3.mat e2 M1 (fun o ho => (q7 o ho).1) rfl, r3⟩
    · rcases q3 b hb with (h | ⟨i, hi, g1, g2⟩) | h
      · exact .inl h
      · rw [he] at hi; simp at hi
      · exact .inr ⟨h, hb⟩
def InOk (P : Program) (st : St) (g : FuncId) (as0 : List AV) (x : AV) (st' : St) : Prop :=
 st'.fr = st.fr ∧ ∀ (E : Env) (vs : List Value), Ok P E → st.h = E.h → st.nx = E.nx → repL P E as0 vs →
  Calls P g vs.toArray E.w fun e w' => ∃ v E', e = .returned v ∧ E'.w = w' ∧ E'.h = st'.h ∧ E'.nx = st'.nx ∧ E.Le E' ∧ Ok P E' ∧ Goes P E E' ∧ rep P E' x v
theorem CallStep.inOk {P : Program} {st st' : St} {g : FuncId} {as0 : List AV} {x : AV} (h : CallStep P st g as0 x st') : InOk P st g as0 x st' := by
 refine ⟨?_, fun E vs hE hh hnx has => (call_sound hE hh hnx has h).2⟩
 obtain ⟨pm, sargs, sids, io, eat, r, outs, h1, h2, h3, h4, h5, h6, h7⟩ := h.ex
 have e2 := congrArg Prod.snd h7
 simp only at e2
 rw [e2, matA_fr]
def FrOk (P : Program) (E : Env) (st : St) (a : Act) : Prop := ∀ t, rep P E (st.fr t) (a.tmps.getD t undef)
def callable (P : Program) (g : FuncId) : Bool :=
 match P.funcs[g]? with
 | some fn => !(fn.name == "runtime.NumGoroutine") && fn.body.isSome
 | none => false
def isW (W : FuncId → Bool) (o : Op) : Bool :=
 match o with
 | .alloc _ | .box .. | .store .. | .makeSlice .. => true
 | .buildSlice _ len _ => len == 0
 | .call { callee := .builtin .append, .. } | .call { callee := .builtin .copy, .. } => true
 | .call { callee := .value (.func g), .. } => W g
 | _ => false
def isS (o : Op) : Bool :=
 match o with
 | .alloc _ | .box .. | .store .. | .makeSlice .. | .load .. | .slice .. | .indexAddr .. => true
 | .buildSlice _ len _ => len == 0
 | .convert src _ _ => src == 147
 | .call { callee := .builtin .append, .. } | .call { callee := .builtin .copy, .. } | .call { callee := .builtin .len, .. } | .call { callee := .value _, .. } => true
 | _ => false
def ValCall (P : Program) (W : FuncId → Bool) (st : St) (o : Op) (f : Operand) (args : Array Operand) (x : AV) (st' : St) : Prop :=
 ∃ g first cap, st.ev f = .fn (.func g) first cap ∧ callable P g = true ∧ InOk P st g (first ++ args.toList.map st.ev ++ cap) x st' ∧ (isW W o = false → st'.h = st.h ∧ st'.nx = st.nx) ∧
  (isW W o = false → AV.pureL (first ++ args.toList.map st.ev ++ cap) = true → ∀ h nx, InOk P ⟨st.fr, h, nx⟩ g (first ++ args.toList.map st.ev ++ cap) x ⟨st.fr, h, nx⟩)
def OpStep (P : Program) (W : FuncId → Bool) (st : St) (o : Op) (x : AV) (st' : St) : Prop :=
 match o with
 | .call { callee := .value f, args := args, argTypes := _ } => ValCall P W st o f args x st'
 | o => evalOp P st o = some (x, st')
theorem rep_put {P : Program} {E : Env} {st : St} {a : Act} {dst : Option Tmp} {x : AV} {u : Value} (hf : FrOk P E st a) (hx : rep P E x u) (hd : ∀ d, dst = some d → d < a.tmps.size) : FrOk P E (st.put dst x) (a.put dst u) := by
  intro t
  cases dst with
  | none => exact hf t
  | some d =>
    have hdl := hd d rfl
    simp only [St.put, Act.put, upd]
    by_cases h : t = d
    · subst h
      rw [if_pos rfl]
      simp only [Array.getD_eq_getD_getElem?, Array.getElem?_setIfInBounds_self, hdl, if_true, Option.getD_some]
      exact hx
    · rw [if_neg h]
      have := hf t
      simp only [Array.getD_eq_getD_getElem?] at this ⊢
      rw [Array.getElem?_setIfInBounds_ne (fun e => h e.symm)]
      exact this
theorem FrOk.mono {P : Program} {E E' : Env} {st : St} {a : Act} (hf : FrOk P E st a) (hle : E.Le E') : FrOk P E' st a := fun t => rep_mono hle _ _ (hf t)
theorem opStep_fr {P : Program} {W : FuncId → Bool} {E : Env} {st st' : St} {a : Act} {o : Oper} {x : AV} (hE : Ok P E) (hh : st.h = E.h) (hnx : st.nx = E.nx) (hf : FrOk P E st a) (h : OpStep P W st o.op x st')
    (K : Act → World → Prop) (Q : Exit → Act → World → Prop) (hK : ∀ u E', st'.fr = st.fr → E'.h = st'.h → E'.nx = st'.nx → E.Le E' → Ok P E' → Goes P E E' → rep P E' x u → K (a.put o.dst u) E'.w) : o.wp P a E.w K Q := by
  unfold OpStep at h
  split at h
  · rename_i f args ts hop
    obtain ⟨g, first, cap, h1, h2, h3, h4, _⟩ := h
    have hfv := rep_ev hf f
    rw [h1] at hfv
    simp only [rep] at hfv
    obtain ⟨fs, cs, hfe, hfs, hcs⟩ := hfv
    have hargs := repL_append (repL_append hfs (repL_map hf args.toList)) hcs
    obtain ⟨k1, k2⟩ : _ ∧ _ := ⟨h3.1, h3.2 E _ hE hh hnx hargs⟩
    obtain ⟨fn, hfn, hname, hbody⟩ : ∃ fn, P.funcs[g]? = some fn ∧ (fn.name == "runtime.NumGoroutine") = false ∧ fn.body.isSome = true := by
      unfold callable at h2
      split at h2
      · rename_i fn hfn
        simp only [Bool.and_eq_true, Bool.not_eq_true'] at h2
        exact ⟨fn, hfn, h2.1, h2.2⟩
      · cases h2
    have hrun : (execOp a.eval o).run P E.w = .ok (.enter g (fs ++ args.toList.map a.eval ++ cs).toArray) E.w := by
      obtain ⟨dst, op, type, pos, after, guard⟩ := o
      simp only at hop
      subst hop
      simp only [execOp, _root_.Go.resolve, hfe, Deferred.ofValue, pure_bind, invoke]
      have harr : fs.toArray ++ Array.map a.eval args ++ cs.toArray = (fs ++ args.toList.map a.eval ++ cs).toArray := by
        apply Array.ext'; simp
      rw [harr]
      have hb : ¬ fn.body = none := by
        intro hfb; rw [hfb] at hbody; simp at hbody
      have hn : ¬ fn.name = "runtime.NumGoroutine" := by simpa using hname
      simp [callFunc, go_sem, hfn, hn, hb]
    unfold Oper.wp
    rw [hrun]
    simp only [Oper.upon]
    refine k2.mono fun e w' hpost => ?_
    obtain ⟨v, E', rfl, rfl, g1, g2, g3, g4, g5, g6⟩ := hpost
    exact hK v E' k1 g1 g2 g3 g4 g5 g6
  · obtain ⟨g1, E', n, u, k1, k2, k3, k4, k5, k6, k7, k8⟩ := evalOp_sound (a := a) (o := o) hE hh hnx hf h
    unfold Oper.wp
    rw [k6]
    rcases k7 with rfl | ⟨rfl, rfl⟩
    · exact hK u E' g1 k1 k2 k3 k4 k5 k8
    · exact hK undef E' g1 k1 k2 k3 k4 k5 k8
def guardA (ops : Array Oper) (st : St) (o : Oper) : Option Bool :=
  match o.guard with
  | none => some true
  | some (j, want) => match (ops[j]?).bind (·.dst) with
    | some d => match st.fr d with
      | .bool b => some (b == want)
      | .tup _ => some false
      | _ => none
    | none => none
theorem guardA_sound {P : Program} {E : Env} {st : St} {a : Act} {ops : Array Oper} {o : Oper} {b : Bool} (hf : FrOk P E st a) (h : guardA ops st o = some b) : Region.wanted o (yielded ops a.tmps) = b := by
  unfold guardA at h
  unfold Region.wanted
  split at h
  · rename_i hg; cases h; rw [hg]
  · rename_i j want hg
    rw [hg]
    split at h
    · rename_i d hd
      split at h
      · rename_i b' hb
        cases h
        have := hf d
        rw [hb] at this
        have hv := rep_bool this
        have hget : a.tmps[d]? = some (.bool b') := by
          rw [Array.getD_eq_getD_getElem?] at hv
          cases he : a.tmps[d]? with
          | none => rw [he] at hv; simp [undef] at hv
          | some v => rw [he] at hv; simp only [Option.getD_some] at hv; rw [hv]
        simp only [yielded, hd, Option.bind_some, hget]
        cases b' <;> cases want <;> rfl
      · rename_i vs hb
        cases h
        have := hf d
        rw [hb] at this
        simp only [rep] at this
        obtain ⟨us, hv, _⟩ := this
        have hget : a.tmps[d]? = some (.tuple us.toArray) ∨ a.tmps[d]? = none := by
          rw [Array.getD_eq_getD_getElem?] at hv
          cases he : a.tmps[d]? with
          | none => exact .inr rfl
          | some v => rw [he] at hv; simp only [Option.getD_some] at hv; rw [hv]; exact .inl rfl
        rcases hget with hget | hget <;> simp [yielded, hd, hget]
      · cases h
    · cases h
def OneStep (P : Program) (W : FuncId → Bool) (ops : Array Oper) (st : St) (o : Oper) (x : AV) (st' : St) : Prop :=
 (guardA ops st o = some true ∧ ∃ st1, OpStep P W st o.op x st1 ∧ st' = st1.put o.dst x) ∨ (guardA ops st o = some false ∧ x = .tup [] ∧ st' = st.put o.dst (.tup []))
structure Rel (P : Program) (E : Env) (st : St) (a : Act) : Prop where
 ok : Ok P E
 h : st.h = E.h
 nx : st.nx = E.nx
 fr : FrOk P E st a
theorem put_h (st : St) (d : Option Tmp) (x : AV) : (st.put d x).h = st.h ∧ (st.put d x).nx = st.nx := by cases d <;> exact ⟨rfl, rfl⟩
theorem put_size (a : Act) (d : Option Tmp) (v : Value) : (a.put d v).tmps.size = a.tmps.size ∧ (a.put d v).defers = a.defers := by cases d <;> simp [Act.put]
theorem oneStep_sound {P : Program} {W : FuncId → Bool} {ops : Array Oper} {E : Env} {st st' : St} {a : Act} {i : Nat} {o : Oper} {x : AV} {Q : Exit → Act → World → Prop} (ho : ops[i]? = some o) (hR : Rel P E st a) (hd : ∀ d, o.dst = some d → d < a.tmps.size)
    (h : OneStep P W ops st o x st') (K : Act → World → Prop) (hK : ∀ a' E', Rel P E' st' a' → a'.tmps.size = a.tmps.size → a'.defers = a.defers → E.Le E' → Goes P E E' → K a' E'.w) :
    wpOp P ops Q i K a E.w := by
  unfold wpOp
  rw [ho]
  rcases h with ⟨hg, st1, h1, rfl⟩ | ⟨hg, rfl, rfl⟩
  · simp only [guardA_sound hR.fr hg, if_true]
    refine .inl (opStep_fr hR.ok hR.h hR.nx hR.fr h1 K Q fun u E' g0 g1 g2 g3 g4 g5 g6 => hK _ E' ⟨g4, ?_, ?_, ?_⟩ (put_size ..).1 (put_size ..).2 g3 g5)
    · rw [(put_h ..).1]; exact g1.symm
    · rw [(put_h ..).2]; exact g2.symm
    · refine rep_put (fun t => ?_) g6 hd
      rw [g0]; exact rep_mono g3 _ _ (hR.fr t)
  · simp only [guardA_sound hR.fr hg, Bool.false_eq_true, if_false]
    refine hK _ E ⟨hR.ok, ?_, ?_, rep_put hR.fr (by simp only [rep]; exact ⟨[], rfl, by simp [repL]⟩) hd⟩ (put_size ..).1 (put_size ..).2 (.refl E) (.refl P E)
    · rw [(put_h ..).1]; exact hR.h
    · rw [(put_h ..).2]; exact hR.nx
inductive Run (P : Program) (W : FuncId → Bool) (ops : Array Oper) : List Nat → St → St → Prop
 | nil (st : St) : Run P W ops [] st st
 | cons {i : Nat} {is : List Nat} {st st1 st2 : St} {o : Oper} {x : AV} : ops[i]? = some o → OneStep P W ops st o x st1 → Run P W ops is st1 st2 → Run P W ops (i :: is) st st2
theorem run_sound {P : Program} {W : FuncId → Bool} {ops : Array Oper} {Q : Exit → Act → World → Prop} {n : Nat} (hd : ∀ o ∈ ops, ∀ d, o.dst = some d → d < n) : ∀ (is : List Nat) (st st2 : St) (E : Env) (a : Act), Run P W ops is st st2 → Rel P E st a → a.tmps.size = n →
  (∀ a' E', Rel P E' st2 a' → a'.tmps.size = n → a'.defers = a.defers → E.Le E' → Goes P E E' → Q .normal a' E'.w) → wpOps P ops Q is a E.w := by
 intro is
 induction is with
 | nil =>
  intro st st2 E a h hR hn hQ
  cases h
  simp only [wpOps]
  exact hQ a E hR hn rfl (.refl E) (.refl P E)
 | cons i is ih =>
  intro st st2 E a h hR hn hQ
  cases h with
  | cons ho h1 h2 =>
   rw [wpOps_cons]
   refine oneStep_sound ho hR (fun d hdd => by rw [hn]; exact hd _ (Array.mem_of_getElem? ho) d hdd) h1 _ fun a' E' g1 g2 g3 g4 g5 => ?_
   exact ih _ _ E' a' h2 g1 (by rw [g2, hn]) fun a'' E'' k1 k2 k3 k4 k5 => hQ a'' E'' k1 k2 (k3.trans g3) (g4.trans k4) (g5.trans hR.ok k5)
def St.withFr (st : St) (fr : Nat → AV) : St := { st with fr := fr }
theorem bind_map_fr {α : Type} (o : Option α) (f g : α → Option (AV × St)) (F : AV × St → AV × St) (h : ∀ a, g a = (f a).map F) : o.bind g = (o.bind f).map F := by
 cases o with
 | none => rfl
 | some a => exact h a
theorem appendA_fr (P : Program) (st : St) (fr : Nat → AV) (e : Nat) (s : AV) (ys : List AV) : appendA P (st.withFr fr) e s ys = (appendA P st e s ys).map fun p => (p.1, p.2.withFr fr) := by
  cases s <;> try rfl
  case nil =>
    simp only [appendA]
    by_cases h1 : ys = []
    · rw [if_pos h1, if_pos h1]; rfl
    · rw [if_neg h1, if_neg h1]
      by_cases h2 : ys.length * byT P e ≤ reach ∧ ys.length ≤ reach
      · rw [if_pos h2, if_pos h2]; rfl
      · rw [if_neg h2, if_neg h2]; rfl
  case sl t xs sp ex =>
    simp only [appendA]
    by_cases h1 : ex = true ∧ sp = [] ∧ ys ≠ [] ∧ t = e
    · rw [if_pos h1, if_pos h1]
      by_cases h2 : (xs.length + ys.length) * byT P e ≤ reach ∧ xs.length + ys.length ≤ reach
      · rw [if_pos h2, if_pos h2]; rfl
      · rw [if_neg h2, if_neg h2]; rfl
    · rw [if_neg h1, if_neg h1]
      by_cases h2 : ys = [] ∧ t = e
      · rw [if_pos h2, if_pos h2]; rfl
      · rw [if_neg h2, if_neg h2]; rfl
  case ref id n off len =>
    simp only [appendA]
    by_cases h1 : (st.h id).lv = true ∧ (st.h id).xs.length = n ∧ (st.h id).t = e ∧ off + len ≤ n
    · rw [if_pos h1, if_pos (show ((st.withFr fr).h id).lv = true ∧ ((st.withFr fr).h id).xs.length = n ∧ ((st.withFr fr).h id).t = e ∧ off + len ≤ n from h1)]
      by_cases h2 : off + len + ys.length ≤ n
      · rw [if_pos h2, if_pos h2]; rfl
      · rw [if_neg h2, if_neg h2]
        by_cases h3 : off = 0 ∧ len = n ∧ (st.h id).gr = true ∧ (len + ys.length) * byT P e ≤ reach ∧ len + ys.length ≤ reach
        · rw [if_pos h3, if_pos (show off = 0 ∧ len = n ∧ ((st.withFr fr).h id).gr = true ∧ (len + ys.length) * byT P e ≤ reach ∧ len + ys.length ≤ reach from h3)]; rfl
        · rw [if_neg h3, if_neg (show ¬ (off = 0 ∧ len = n ∧ ((st.withFr fr).h id).gr = true ∧ (len + ys.length) * byT P e ≤ reach ∧ len + ys.length ≤ reach) from h3)]; rfl
    · rw [if_neg h1, if_neg (show ¬ (((st.withFr fr).h id).lv = true ∧ ((st.withFr fr).h id).xs.length = n ∧ ((st.withFr fr).h id).t = e ∧ off + len ≤ n) from h1)]; rfl
theorem appendN_fr (P : Program) (st : St) (fr : Nat → AV) (u e : Nat) (s x : AV) : appendN P (st.withFr fr) u e s x = (appendN P st u e s x).map fun p => (p.1, p.2.withFr fr) := by
  unfold appendN
  split
  · split
    · cases zeroA P e with
      | none => rfl
      | some z => simp only [Option.bind_some]; split <;> rfl
    · rfl
  · rfl
theorem copyA_fr (P : Program) (st : St) (fr : Nat → AV) (e : Nat) (s : AV) (ys : List AV) : copyA P (st.withFr fr) e s ys = (copyA P st e s ys).map fun p => (p.1, p.2.withFr fr) := by
  unfold copyA
  cases s <;> try rfl
  rename_i id n off len
  simp only [appendA_fr]
  split
  · cases appendA P st e (.ref id n off 0) ys with
    | none => rfl
    | some p =>
      simp only [Option.map_some, Option.bind_some]
      show (if (st.h id).lv = true ∧ (st.h id).xs.length = n then _ else _) = _
      split <;> rfl
  · rfl
theorem winA_fr (st : St) (fr : Nat → AV) (e : Nat) (x : AV) : winA (st.withFr fr) e x = winA st e x := by cases x <;> rfl
theorem loadA_fr (P : Program) (st : St) (fr : Nat → AV) (t : Nat) (x : AV) : loadA P (st.withFr fr) t x = loadA P st t x := by cases x <;> rfl
theorem sliceA_fr (P : Program) (st : St) (fr : Nat → AV) (t : Nat) (x : AV) (lo hi mx : Option AV) : sliceA P (st.withFr fr) t x lo hi mx = sliceA P st t x lo hi mx := by cases mx <;> cases x <;> rfl
theorem indexAddrA_fr (P : Program) (st : St) (fr : Nat → AV) (t : Nat) (x i : AV) : indexAddrA P (st.withFr fr) t x i = indexAddrA P st t x i := by cases x <;> cases i <;> rfl
theorem lenA_fr (st : St) (fr : Nat → AV) (x : AV) : lenA (st.withFr fr) x = lenA st x := by cases x <;> rfl
theorem storeA_fr (P : Program) (st : St) (fr : Nat → AV) (t : Nat) (a v : AV) : storeA P (st.withFr fr) t a v = (storeA P st t a v).map (·.withFr fr) := by
  cases a <;> try rfl
  case ptr id n i j =>
    simp only [storeA]
    by_cases h1 : (st.h id).lv = true ∧ (st.h id).xs.length = n
    · rw [if_pos h1, if_pos (show ((st.withFr fr).h id).lv = true ∧ ((st.withFr fr).h id).xs.length = n from h1)]
      show (match (st.h id).xs[i]? with | some x => _ | none => _) = Option.map _ (match (st.h id).xs[i]? with | some x => _ | none => _)
      cases (st.h id).xs[i]? with
      | none => rfl
      | some x => simp only; cases stA P t x j v <;> rfl
    · rw [if_neg h1, if_neg (show ¬ (((st.withFr fr).h id).lv = true ∧ ((st.withFr fr).h id).xs.length = n) from h1)]; rfl
theorem map_map_fr {α : Type} (o : Option α) (st : St) (fr : Nat → AV) (f : α → AV) : (o.map fun z => (f z, st.withFr fr)) = (o.map fun z => (f z, st)).map fun p => (p.1, p.2.withFr fr) := by
 cases o <;> rfl
set_option maxHeartbeats 1000000 in
theorem evalOp_fr (P : Program) (st : St) (fr : Nat → AV) (o : Op) (hev : ∀ y ∈ o.operands, (st.withFr fr).ev y = st.ev y) :
    evalOp P (st.withFr fr) o = (evalOp P st o).map fun p => (p.1, p.2.withFr fr) := by
  cases o <;> simp only [Op.operands] at hev <;> try rfl
  case move x => simp only [evalOp, hev x (by simp), Option.map_some]
  case assign x => simp only [evalOp, hev x (by simp), Option.map_some]
  case pick c a b =>
    simp only [evalOp, hev c (by simp), hev a (by simp), hev b (by simp)]
    split <;> rfl
  case alloc e =>
    simp only [evalOp]
    refine bind_map_fr _ _ _ _ fun z => ?_
    split <;> rfl
  case box e x =>
    simp only [evalOp, hev x (by simp)]
    split <;> rfl
  case build t ps =>
    have hp : (ps.toList.map fun p => (p.1, (st.withFr fr).ev p.2)) = ps.toList.map fun p => (p.1, st.ev p.2) :=
      List.map_congr_left fun p hp => by rw [hev p.2 (by simp; exact ⟨p.1, by simpa using hp⟩)]
    simp only [evalOp, hp]
    split
    · split
      · exact map_map_fr _ _ _ _
      · rfl
    · rfl
  case buildSlice t len ps =>
    have hp : (ps.toList.map fun p => (p.1, (st.withFr fr).ev p.2)) = ps.toList.map fun p => (p.1, st.ev p.2) :=
      List.map_congr_left fun p hp => by rw [hev p.2 (by simp; exact ⟨p.1, by simpa using hp⟩)]
    simp only [evalOp, hp]
    refine bind_map_fr _ _ _ _ fun e => ?_
    split
    · split
      · split <;> rfl
      · refine bind_map_fr _ _ _ _ fun xs => ?_
        split <;> rfl
    · rfl
  case nilCheck y =>
    simp only [evalOp, hev y (by simp)]
    cases st.ev y <;> rfl
  case load t a =>
    simp only [evalOp, hev a (by simp), loadA_fr]
    split
    · exact map_map_fr _ _ _ _
    · rfl
  case store t a v =>
    simp only [evalOp, hev a (by simp), hev v (by simp), storeA_fr]
    split
    · cases storeA P st t (st.ev a) (st.ev v) <;> rfl
    · rfl
  case binOp op t x y u =>
    simp only [evalOp, hev x (by simp), hev y (by simp)]
    split
    · exact map_map_fr _ _ _ _
    · rfl
  case unOp op t x => simp only [evalOp, hev x (by simp)]; exact map_map_fr _ _ _ _
  case convert s d x =>
    have hc : ∀ v, conA P (st.withFr fr) s d v = conA P st s d v := fun v => by unfold conA; simp only [winA_fr]
    simp only [evalOp, hev x (by simp), hc]
    split
    · exact map_map_fr _ _ _ _
    · rfl
  case makeFunc f a b =>
    have h1 : a.toList.map (st.withFr fr).ev = a.toList.map st.ev := List.map_congr_left fun y hy => hev y (by simp; exact .inl (by simpa using hy))
    have h2 : b.toList.map (st.withFr fr).ev = b.toList.map st.ev := List.map_congr_left fun y hy => hev y (by simp; exact .inr (by simpa using hy))
    simp only [evalOp, h1, h2, Option.map_some]
  case makeSlice t l c =>
    simp only [evalOp, hev l (by simp), hev c (by simp)]
    refine bind_map_fr _ _ _ _ fun e => ?_
    split
    · split
      · refine bind_map_fr _ _ _ _ fun z => ?_
        split <;> rfl
      · rfl
    · rfl
  case slice t x lo hi mx =>
    have h1 : lo.map (st.withFr fr).ev = lo.map st.ev := by cases lo with | none => rfl | some y => simp [hev y (by simp)]
    have h2 : hi.map (st.withFr fr).ev = hi.map st.ev := by cases hi with | none => rfl | some y => simp [hev y (by simp)]
    have h3 : mx.map (st.withFr fr).ev = mx.map st.ev := by cases mx with | none => rfl | some y => simp [hev y (by simp)]
    simp only [evalOp, hev x (by simp), h1, h2, h3, sliceA_fr]; exact map_map_fr _ _ _ _
  case fieldAddr s x f =>
    simp only [evalOp, hev x (by simp)]
    split
    · split <;> rfl
    · split <;> rfl
    · rfl
  case field t x f =>
    simp only [evalOp, hev x (by simp)]
    split
    · split
      · exact map_map_fr _ _ _ _
      · rfl
    · rfl
  case indexAddr t x i => simp only [evalOp, hev x (by simp), hev i (by simp), indexAddrA_fr]; exact map_map_fr _ _ _ _
  case index t x i =>
    simp only [evalOp, hev x (by simp), hev i (by simp)]
    split
    · split
      · exact map_map_fr _ _ _ _
      · rfl
    · rfl
  case extract t i =>
    simp only [evalOp, hev t (by simp)]
    split
    · exact map_map_fr _ _ _ _
    · rfl
  case call c =>
    obtain ⟨callee, args, ts⟩ := c
    cases callee with
    | value f => rfl
    | invoke r m => rfl
    | builtin b =>
      have hm : ∀ y ∈ args.toList, (st.withFr fr).ev y = st.ev y := fun y hy => hev y (by simp [Call.operands]; simpa using hy)
      simp only [evalOp]
      split
      · rename_i x t ha ht
        rw [hm x (by rw [ha]; simp), lenA_fr]
        split
        · exact map_map_fr _ _ _ _
        · rfl
      · rename_i s x t u ha ht
        rw [hm s (by rw [ha]; simp), hm x (by rw [ha]; simp)]
        refine bind_map_fr _ _ _ _ fun e => ?_
        rw [winA_fr]
        cases (if elT P u = some e ∧ zokT P e = true then winA st e (st.ev x) else none) with
        | none => exact appendN_fr P st fr u e _ _
        | some ys => exact appendA_fr P st fr e _ ys
      · rename_i x t ha ht
        rw [hm x (by rw [ha]; simp)]
        split <;> rfl
      · rename_i s x t u ha ht
        rw [hm s (by rw [ha]; simp), hm x (by rw [ha]; simp)]
        refine bind_map_fr _ _ _ _ fun e => ?_
        split
        · rw [winA_fr]
          refine bind_map_fr _ _ _ _ fun ys => ?_
          exact copyA_fr P st fr e _ ys
        · rfl
      · rename_i x y ha
        rw [hm x (by rw [ha]; simp), hm y (by rw [ha]; simp)]
        split
        · split <;> rfl
        · rfl
      · rename_i x y ha
        rw [hm x (by rw [ha]; simp), hm y (by rw [ha]; simp)]
        split
        · split <;> rfl
        · rfl
      · rfl
set_option maxHeartbeats 1000000 in
theorem evalOp_blind (P : Program) (st st2 st' : St) (x : AV) (o : Op) (hs : isS o = false) (hev : ∀ y ∈ o.operands, st2.ev y = st.ev y) (h : evalOp P st o = some (x, st')) : st' = st ∧ evalOp P st2 o = some (x, st2) := by
  have mm : ∀ (r : Option AV), (r.map fun z => (z, st)) = some (x, st') → st' = st ∧ (r.map fun z => (z, st2)) = some (x, st2) := by
    intro r hr; cases r with
    | none => cases hr
    | some z => cases hr; exact ⟨rfl, rfl⟩
  cases o <;> simp only [Op.operands] at hev <;> simp only [isS] at hs <;> try (simp at hs; done)
  all_goals try (simp [evalOp] at h; done)
  case move y => simp only [evalOp, Option.some.injEq, Prod.mk.injEq] at h ⊢; exact ⟨h.2.symm, by rw [hev y (by simp)]; exact h.1, trivial⟩
  case assign y => simp only [evalOp, Option.some.injEq, Prod.mk.injEq] at h ⊢; exact ⟨h.2.symm, by rw [hev y (by simp)]; exact h.1, trivial⟩
  case pick c a b =>
    simp only [evalOp] at h ⊢
    rw [hev c (by simp), hev a (by simp), hev b (by simp)]
    split at h
    · cases h; exact ⟨rfl, rfl⟩
    · cases h
  case nilCheck y =>
    simp only [evalOp] at h ⊢
    rw [hev y (by simp)]
    split at h
    · cases h; exact ⟨rfl, rfl⟩
    · cases h; exact ⟨rfl, rfl⟩
    · cases h
  case build t ps =>
    have hp : (ps.toList.map fun p => (p.1, st2.ev p.2)) = ps.toList.map fun p => (p.1, st.ev p.2) :=
      List.map_congr_left fun p hp => by rw [hev p.2 (by simp; exact ⟨p.1, by simpa using hp⟩)]
    simp only [evalOp, hp] at h ⊢
    by_cases hin : infosT P t = true
    · rw [if_pos hin] at h ⊢
      split at h
      · cases hf : fillA P t _ (ps.toList.map fun p => (p.1, st.ev p.2)) with
        | none => rw [hf] at h; cases h
        | some cs => rw [hf] at h; cases h; exact ⟨rfl, rfl⟩
      · cases h
    · rw [if_neg hin] at h; cases h
  case buildSlice t len ps =>
    have hp : (ps.toList.map fun p => (p.1, st2.ev p.2)) = ps.toList.map fun p => (p.1, st.ev p.2) :=
      List.map_congr_left fun p hp => by rw [hev p.2 (by simp; exact ⟨p.1, by simpa using hp⟩)]
    have hl : ¬ len = 0 := by simpa using hs
    simp only [evalOp, hp, hl, false_and, if_false] at h ⊢
    obtain ⟨e, he, h⟩ := Option.bind_eq_some_iff.1 h
    split at h
    · rename_i hc
      obtain ⟨xs, hxs, h⟩ := Option.bind_eq_some_iff.1 h
      split at h
      · rename_i hc2
        cases h
        refine ⟨rfl, ?_⟩
        rw [he]; simp only [Option.bind_some]
        rw [if_pos hc, hxs]; simp only [Option.bind_some]
        rw [if_pos hc2]
      · cases h
    · cases h
  case binOp op t y z u =>
    simp only [evalOp] at h ⊢
    rw [hev y (by simp), hev z (by simp)]
    split at h
    · rename_i hc; rw [if_pos hc]; exact mm _ h
    · cases h
  case unOp op t y => simp only [evalOp] at h ⊢; rw [hev y (by simp)]; exact mm _ h
  case convert s d y =>
    have hn : ¬ s = 147 := by simpa using hs
    simp only [evalOp, conA, if_neg hn] at h ⊢
    rw [hev y (by simp)]
    split at h
    · rename_i hc; rw [if_pos hc]; exact mm _ h
    · cases h
  case makeFunc f a b =>
    have h1 : a.toList.map st2.ev = a.toList.map st.ev := List.map_congr_left fun y hy => hev y (by simp; exact .inl (by simpa using hy))
    have h2 : b.toList.map st2.ev = b.toList.map st.ev := List.map_congr_left fun y hy => hev y (by simp; exact .inr (by simpa using hy))
    simp only [evalOp, h1, h2, Option.some.injEq, Prod.mk.injEq] at h ⊢
    exact ⟨h.2.symm, h.1, trivial⟩
  case fieldAddr s y f =>
    simp only [evalOp] at h ⊢
    rw [hev y (by simp)]
    split at h
    · split at h
      · rename_i hc; cases h; exact ⟨rfl, by simp [hc]⟩
      · cases h
    · split at h
      · rename_i hc; cases h; exact ⟨rfl, by simp [hc]⟩
      · cases h
    · cases h
  case field t y f =>
    simp only [evalOp] at h ⊢
    rw [hev y (by simp)]
    split at h
    · split at h
      · rename_i hc; simp only [hc, if_true]; exact mm _ h
      · cases h
    · cases h
  case index t y i =>
    simp only [evalOp] at h ⊢
    rw [hev y (by simp), hev i (by simp)]
    split at h
    · split at h
      · rename_i hc; rw [if_pos hc]
        rename_i s k n _ _
        cases hb : s[n.toNat]? with
        | none => rw [hb] at h; cases h
        | some b => rw [hb] at h; cases h; exact ⟨rfl, rfl⟩
      · cases h
    · cases h
  case extract t i =>
    simp only [evalOp] at h ⊢
    rw [hev t (by simp)]
    split at h
    · exact mm _ h
    · cases h
  case call c =>
    obtain ⟨callee, args, ts⟩ := c
    cases callee with
    | value f => simp at hs
    | invoke r m => simp [evalOp] at h
    | builtin b =>
      have hm : ∀ y ∈ args.toList, st2.ev y = st.ev y := fun y hy => hev y (by simp [Call.operands]; simpa using hy)
      simp only [evalOp] at h ⊢
      split at h
      · simp at hs
      · simp at hs
      · rename_i y t ha ht
        rw [hm y (by rw [ha]; simp)]
        split at h
        · cases h; exact ⟨rfl, rfl⟩
        · cases h
      · simp at hs
      · rename_i p q ha
        rw [hm p (by rw [ha]; simp), hm q (by rw [ha]; simp)]
        split at h
        · split at h
          · rename_i hc; cases h; exact ⟨rfl, by rw [if_pos hc]⟩
          · cases h
        · cases h
      · rename_i p q ha
        rw [hm p (by rw [ha]; simp), hm q (by rw [ha]; simp)]
        split at h
        · split at h
          · rename_i hc; cases h; exact ⟨rfl, by rw [if_pos hc]⟩
          · cases h
        · cases h
      · cases h
theorem appendA_slots {P : Program} {st st' : St} {e : Nat} {s x : AV} {ys : List AV} (h : appendA P st e s ys = some (x, st')) : st'.fr = st.fr := by
  unfold appendA at h
  split at h
  · split at h
    · cases h; rfl
    · split at h
      · cases h; rfl
      · cases h
  · split at h
    · split at h
      · cases h; rfl
      · cases h
    · split at h
      · cases h; rfl
      · cases h
  · split at h
    · split at h
      · cases h; rfl
      · split at h
        · cases h; rfl
        · cases h
    · cases h
  · cases h
theorem appendN_slots {P : Program} {st st' : St} {u e : Nat} {s x z : AV} (h : appendN P st u e s x = some (z, st')) : st'.fr = st.fr := by
  unfold appendN at h
  split at h
  · split at h
    · obtain ⟨z0, _, h⟩ := Option.bind_eq_some_iff.1 h
      split at h
      · cases h; rfl
      · cases h
    · cases h
  · cases h
theorem copyA_slots {P : Program} {st st' : St} {e : Nat} {s x : AV} {ys : List AV} (h : copyA P st e s ys = some (x, st')) : st'.fr = st.fr := by
  unfold copyA at h
  split at h
  · split at h
    · obtain ⟨⟨z, s1⟩, ha, h⟩ := Option.bind_eq_some_iff.1 h
      split at h
      · cases h; exact appendA_slots (x := z) (st' := s1) ha
      · cases h
    · cases h
  · cases h
set_option maxHeartbeats 1000000 in
theorem evalOp_keeps (P : Program) (W : FuncId → Bool) (st st' : St) (x : AV) (o : Op) (h : evalOp P st o = some (x, st')) : st'.fr = st.fr ∧ (isW W o = false → st'.h = st.h ∧ st'.nx = st.nx) := by
  by_cases hs : isS o = false
  · obtain ⟨rfl, _⟩ := evalOp_blind P st st st' x o hs (fun _ _ => rfl) h
    exact ⟨rfl, fun _ => ⟨rfl, rfl⟩⟩
  · have mm : ∀ (r : Option AV), (r.map fun z => (z, st)) = some (x, st') → st' = st := by
      intro r hr; cases r with
      | none => cases hr
      | some z => cases hr; rfl
    cases o <;> simp only [isS] at hs <;> try (simp at hs; done)
    case alloc e =>
      simp only [evalOp] at h
      obtain ⟨z, _, h⟩ := Option.bind_eq_some_iff.1 h
      split at h
      · cases h; exact ⟨rfl, fun h => by simp [isW] at h⟩
      · cases h
    case box e y =>
      simp only [evalOp] at h
      split at h
      · cases h; exact ⟨rfl, fun h => by simp [isW] at h⟩
      · cases h
    case buildSlice t len ps =>
      simp only [evalOp] at h
      obtain ⟨e, _, h⟩ := Option.bind_eq_some_iff.1 h
      split at h
      · split at h
        · rename_i h0
          split at h
          · cases h; exact ⟨rfl, fun h => by simp [isW, h0.1] at h⟩
          · cases h
        · obtain ⟨xs, _, h⟩ := Option.bind_eq_some_iff.1 h
          split at h
          · cases h; exact ⟨rfl, fun _ => ⟨rfl, rfl⟩⟩
          · cases h
      · cases h
    case load t a =>
      simp only [evalOp] at h
      split at h
      · rw [mm _ h]; exact ⟨rfl, fun _ => ⟨rfl, rfl⟩⟩
      · cases h
    case convert s d y =>
      simp only [evalOp] at h
      split at h
      · rw [mm _ h]; exact ⟨rfl, fun _ => ⟨rfl, rfl⟩⟩
      · cases h
    case store t a v =>
      simp only [evalOp] at h
      split at h
      · simp only [Option.map_eq_some_iff, Prod.mk.injEq] at h
        obtain ⟨s, hs', _, rfl⟩ := h
        refine ⟨?_, fun h => by simp [isW] at h⟩
        unfold storeA at hs'
        split at hs'
        · split at hs'
          · split at hs'
            · simp only [Option.map_eq_some_iff] at hs'; obtain ⟨y, _, rfl⟩ := hs'; rfl
            · cases hs'
          · cases hs'
        · cases hs'
      · cases h
    case makeSlice t l c =>
      simp only [evalOp] at h
      obtain ⟨e, _, h⟩ := Option.bind_eq_some_iff.1 h
      split at h
      · split at h
        · obtain ⟨z, _, h⟩ := Option.bind_eq_some_iff.1 h
          split at h
          · cases h; exact ⟨rfl, fun h => by simp [isW] at h⟩
          · cases h
        · cases h
      · cases h
    case slice t y lo hi mx => simp only [evalOp] at h; rw [mm _ h]; exact ⟨rfl, fun _ => ⟨rfl, rfl⟩⟩
    case indexAddr t y i => simp only [evalOp] at h; rw [mm _ h]; exact ⟨rfl, fun _ => ⟨rfl, rfl⟩⟩
    case call c =>
      obtain ⟨callee, args, ts⟩ := c
      cases callee with
      | value f => simp [evalOp] at h
      | invoke r m => simp at hs
      | builtin b =>
        simp only [evalOp] at h
        split at h
        · split at h
          · simp only [Option.map_eq_some_iff, Prod.mk.injEq] at h
            obtain ⟨_, _, _, rfl⟩ := h
            exact ⟨rfl, fun _ => ⟨rfl, rfl⟩⟩
          · cases h
        · obtain ⟨e, _, h⟩ := Option.bind_eq_some_iff.1 h
          split at h
          · exact ⟨appendA_slots h, fun h => by simp [isW] at h⟩
          · exact ⟨appendN_slots h, fun h => by simp [isW] at h⟩
        · split at h
          · cases h; exact ⟨rfl, fun _ => ⟨rfl, rfl⟩⟩
          · cases h
        · obtain ⟨e, _, h⟩ := Option.bind_eq_some_iff.1 h
          split at h
          · obtain ⟨ys, _, h⟩ := Option.bind_eq_some_iff.1 h
            exact ⟨copyA_slots h, fun h => by simp [isW] at h⟩
          · cases h
        · split at h
          · split at h
            · cases h; exact ⟨rfl, fun _ => ⟨rfl, rfl⟩⟩
            · cases h
          · cases h
        · split at h
          · split at h
            · cases h; exact ⟨rfl, fun _ => ⟨rfl, rfl⟩⟩
            · cases h
          · cases h
        · cases h
theorem callStep_fr {P : Program} {st st' : St} {g : FuncId} {as0 : List AV} {x : AV} (fr : Nat → AV) (h : InOk P st g as0 x st') : InOk P (st.withFr fr) g as0 x (st'.withFr fr) := ⟨rfl, h.2⟩
theorem callStep_keeps {P : Program} {st st' : St} {g : FuncId} {as0 : List AV} {x : AV} (h : InOk P st g as0 x st') : st'.fr = st.fr := h.1
theorem opStep_keeps {P : Program} {W : FuncId → Bool} {st st' : St} {o : Op} {x : AV} (h : OpStep P W st o x st') : st'.fr = st.fr ∧ (isW W o = false → st'.h = st.h ∧ st'.nx = st.nx) := by
  unfold OpStep at h
  split at h
  · obtain ⟨g, first, cap, h1, h2, h3, h4, _⟩ := h
    exact ⟨callStep_keeps h3, h4⟩
  · exact evalOp_keeps P W st st' x _ h
theorem withFr_eq {st st2 : St} (h : st2.h = st.h) (hn : st2.nx = st.nx) : st2 = st.withFr st2.fr := by
 cases st; cases st2; simp only at h hn; subst h; subst hn; rfl
theorem opStep_congr {P : Program} {W : FuncId → Bool} {st st' st2 : St} {o : Op} {x : AV} (h : OpStep P W st o x st') (hev : ∀ y ∈ o.operands, st2.ev y = st.ev y) (hS : isS o = true → st2.h = st.h ∧ st2.nx = st.nx) :
    ∃ st2', OpStep P W st2 o x st2' ∧ st2'.fr = st2.fr ∧ (isS o = true → st2'.h = st'.h ∧ st2'.nx = st'.nx) ∧ (isS o = false → st2'.h = st2.h ∧ st2'.nx = st2.nx) := by
  unfold OpStep at h ⊢
  split at h
  · rename_i f args ts
    obtain ⟨e1, e2⟩ := hS rfl
    obtain ⟨g, first, cap, h1, h2, h3, h4, h5⟩ := h
    have hst := withFr_eq e1 e2
    refine ⟨st'.withFr st2.fr, ⟨g, first, cap, ?_, h2, ?_, fun hw => ?_, fun hw hp h nx => ?_⟩, rfl, fun _ => ⟨rfl, rfl⟩, fun h => by simp [isS] at h⟩
    · rw [hev f (by simp [Op.operands, Call.operands])]; exact h1
    · have hm : args.toList.map st2.ev = args.toList.map st.ev := List.map_congr_left fun y hy => hev y (by simp [Op.operands, Call.operands]; exact .inr (by simpa using hy))
      rw [hm]
      have := callStep_fr st2.fr h3
      rw [← hst] at this
      exact this
    · obtain ⟨k1, k2⟩ := h4 hw
      exact ⟨k1.trans e1.symm, k2.trans e2.symm⟩
    · have hm : args.toList.map st2.ev = args.toList.map st.ev := List.map_congr_left fun y hy => hev y (by simp [Op.operands, Call.operands]; exact .inr (by simpa using hy))
      rw [hm] at hp ⊢
      exact callStep_fr st2.fr (h5 hw hp h nx)
  · by_cases hs : isS o = true
    · obtain ⟨e1, e2⟩ := hS hs
      have hst := withFr_eq e1 e2
      have := evalOp_fr P st st2.fr o (by rw [← hst]; exact hev)
      rw [h, ← hst] at this
      exact ⟨_, this, rfl, fun _ => ⟨rfl, rfl⟩, fun h => by rw [hs] at h; cases h⟩
    · have hs' : isS o = false := by simpa using hs
      obtain ⟨_, h2⟩ := evalOp_blind P st st2 st' x o hs' hev h
      exact ⟨st2, h2, rfl, fun h => absurd h hs, fun _ => ⟨rfl, rfl⟩⟩
def edgesB (ops : Array Oper) (j : Nat) : List Nat := (((ops[j]?).map (·.after)).getD #[]).toList.filterMap fun e => if Region.binds .any e then some e.on else none
def befsGo (ops : Array Oper) : List Nat → List (List Bool) → List (List Bool)
 | [], acc => acc
 | j :: js, acc => befsGo ops js (acc ++ [(List.range j).map fun i => (edgesB ops j).any fun k => k == i || (acc.getD k []).getD i false])
def befs (ops : Array Oper) : List (List Bool) := befsGo ops (List.range ops.size) []
def bget (B : List (List Bool)) (j i : Nat) : Bool := (B.getD j []).getD i false
def clash (W : FuncId → Bool) (ops : Array Oper) (a b : Oper) : Bool :=
 (match a.dst with | some d => (b.looksAt ops).contains d || b.dst == some d | none => false) || (match b.dst with | some d => (a.looksAt ops).contains d | none => false) ||
 (isW W a.op && isS b.op) || (isS a.op && isW W b.op)
def drawOk (W : FuncId → Bool) (ops : Array Oper) : Bool :=
 let B := befs ops
 let r := List.range ops.size
 (r.all fun j => (edgesB ops j).all fun k => decide (k < j)) &&
 (r.all fun j => r.all fun i => !(bget B j i) || (edgesB ops j).any fun k => k == i || bget B k i) &&
 (r.all fun j => (List.range j).all fun i => match ops[i]?, ops[j]? with | some a, some b => !(clash W ops a b) || bget B j i | _, _ => true)
theorem clash_symm_spec {W : FuncId → Bool} {ops : Array Oper} {a b : Oper} (h : clash W ops a b = false) :
    (∀ d, a.dst = some d → d ∉ b.looksAt ops ∧ b.dst ≠ some d) ∧ (∀ d, b.dst = some d → d ∉ a.looksAt ops) ∧ (isW W a.op = true → isS b.op = false) ∧ (isW W b.op = true → isS a.op = false) := by
  simp only [clash, Bool.or_eq_false_iff] at h
  obtain ⟨⟨⟨h1, h2⟩, h3⟩, h4⟩ := h
  refine ⟨fun d hd => ?_, fun d hd => ?_, fun hw => ?_, fun hw => ?_⟩
  · rw [hd] at h1; simp only [Bool.or_eq_false_iff] at h1
    exact ⟨fun hm => by simp [hm] at h1, fun he => by rw [he] at h1; simp at h1⟩
  · rw [hd] at h2
    exact fun hm => by simp [hm] at h2
  · rw [hw] at h3; simpa using h3
  · rw [hw] at h4; simpa using h4
theorem isW_isS {W : FuncId → Bool} {o : Op} (h : isW W o = true) : isS o = true := by
 unfold isW at h
 split at h <;> first | rfl | (simp only [isS]; exact h) | (cases h)
section
variable {P : Program} {W : FuncId → Bool} {ops : Array Oper} {s : Nat → St} {x : Nat → AV}
def RunF (P : Program) (W : FuncId → Bool) (ops : Array Oper) (s : Nat → St) (x : Nat → AV) : Prop := ∀ i o, ops[i]? = some o → OneStep P W ops (s i) o (x i) (s (i + 1))
theorem Run.toF : ∀ {k m : Nat} {st st2 : St}, Run P W ops (List.range' k m) st st2 → ∃ (s : Nat → St) (x : Nat → AV), s k = st ∧ s (k + m) = st2 ∧ ∀ i o, k ≤ i → i < k + m → ops[i]? = some o → OneStep P W ops (s i) o (x i) (s (i + 1))
  | k, 0, st, st2, h => by
    cases h
    exact ⟨fun _ => st, fun _ => .undef, rfl, rfl, fun i o h1 h2 => by omega⟩
  | k, m + 1, st, st2, h => by
    rw [List.range'_succ] at h
    cases h with
    | @cons _ _ _ st1 _ o y ho h1 h2 =>
      obtain ⟨s, x, e1, e2, h3⟩ := Run.toF h2
      refine ⟨fun i => if i = k then st else s i, fun i => if i = k then y else x i, by simp, ?_, fun i o' hi1 hi2 ho' => ?_⟩
      · simp only; rw [if_neg (by omega), show k + (m + 1) = k + 1 + m by omega]; exact e2
      · by_cases hi : i = k
        · subst hi
          rw [ho] at ho'; cases ho'
          simp only [if_true]
          rw [if_neg (by omega), e1]; exact h1
        · simp only [hi, if_false]
          rw [if_neg (by omega)]
          exact h3 i o' (by omega) (by omega) ho'
theorem oneStep_fr {o : Oper} {st st' : St} {y : AV} (h : OneStep P W ops st o y st') : st'.fr = (st.put o.dst y).fr ∧ (isW W o.op = false → st'.h = st.h ∧ st'.nx = st.nx) := by
  rcases h with ⟨_, st1, h1, rfl⟩ | ⟨_, rfl, rfl⟩
  · obtain ⟨k1, k2⟩ := opStep_keeps h1
    refine ⟨?_, fun hw => ?_⟩
    · cases o.dst <;> simp [St.put, k1]
    · rw [(put_h ..).1, (put_h ..).2]; exact k2 hw
  · exact ⟨rfl, fun _ => by rw [(put_h ..).1, (put_h ..).2]; exact ⟨rfl, rfl⟩⟩
def writes (ops : Array Oper) (i t : Nat) : Prop := (ops[i]?).bind (·.dst) = some t
def Holds (ops : Array Oper) (s : Nat → St) (x : Nat → AV) (D : Nat → Prop) (t : Nat) (v : AV) : Prop :=
 (∃ i, D i ∧ writes ops i t ∧ (∀ j, D j → writes ops j t → j ≤ i) ∧ v = x i) ∨ ((∀ i, D i → ¬ writes ops i t) ∧ v = (s 0).fr t)
theorem Holds.unique {D D' : Nat → Prop} {t : Nat} {v v' : AV} (h : Holds ops s x D t v) (h' : Holds ops s x D' t v') (hD : ∀ i, writes ops i t → (D i ↔ D' i)) : v = v' := by
  rcases h with ⟨i, a1, a2, a3, rfl⟩ | ⟨a1, rfl⟩ <;> rcases h' with ⟨j, b1, b2, b3, rfl⟩ | ⟨b1, rfl⟩
  · have h1 := a3 j ((hD j b2).2 b1) b2
    have h2 := b3 i ((hD i a2).1 a1) a2
    have : i = j := by omega
    rw [this]
  · exact absurd a2 (b1 i ((hD i a2).1 a1))
  · exact absurd b2 (a1 j ((hD j b2).2 b1))
  · rfl
theorem text_fr (hrun : RunF P W ops s x) : ∀ m, m ≤ ops.size → ∀ t, Holds ops s x (· < m) t ((s m).fr t)
  | 0, _, t => .inr ⟨fun i h => absurd h (by omega), rfl⟩
  | m + 1, hm, t => by
    have ho : ops[m]? = some ops[m] := Array.getElem?_eq_getElem (by omega)
    have h1 := oneStep_fr (hrun m _ ho)
    rw [h1.1]
    have ih := text_fr hrun m (by omega) t
    by_cases hw : writes ops m t
    · refine .inl ⟨m, by omega, hw, fun j hj _ => by omega, ?_⟩
      have hd : ops[m].dst = some t := by have := hw; simp only [writes, ho, Option.bind_some] at this; exact this
      rw [hd]; simp [St.put, upd]
    · have hv : ((s m).put ops[m].dst (x m)).fr t = (s m).fr t := by
        cases hd : ops[m].dst with
        | none => rfl
        | some d =>
          have hne : t ≠ d := fun e => hw (by simp [writes, ho, hd, e])
          simp [St.put, upd, hne]
      rw [hv]
      rcases ih with ⟨i, a1, a2, a3, a4⟩ | ⟨a1, a2⟩
      · refine .inl ⟨i, by omega, a2, fun j hj hj2 => ?_, a4⟩
        rcases Nat.lt_or_ge j m with h | h
        · exact a3 j h hj2
        · exact absurd ((by omega : j = m) ▸ hj2) hw
      · refine .inr ⟨fun j hj hj2 => ?_, a2⟩
        rcases Nat.lt_or_ge j m with h | h
        · exact a1 j h hj2
        · exact absurd ((by omega : j = m) ▸ hj2) hw
theorem text_h (hrun : RunF P W ops s x) {k : Nat} : ∀ d, k + d ≤ ops.size → (∀ i o, k ≤ i → i < k + d → ops[i]? = some o → isW W o.op = false) → (s (k + d)).h = (s k).h ∧ (s (k + d)).nx = (s k).nx
 | 0, _, _ => ⟨rfl, rfl⟩
 | d + 1, hd, hq => by
  obtain ⟨a1, a2⟩ := text_h hrun d (by omega) (fun i o h1 h2 => hq i o h1 (by omega))
  have ho : ops[k + d]? = some ops[k + d] := Array.getElem?_eq_getElem (by omega)
  obtain ⟨b1, b2⟩ := (oneStep_fr (hrun (k + d) _ ho)).2 (hq (k + d) _ (by omega) (by omega) ho)
  exact ⟨b1.trans a1, b2.trans a2⟩
structure Drawn (ops : Array Oper) (W : FuncId → Bool) (s : Nat → St) (x : Nat → AV) (D : Nat → Prop) (st : St) : Prop where
 shut : ∀ j, D j → ∀ k ∈ edgesB ops j, D k
 lt : ∀ j, D j → j < ops.size
 fr : ∀ t, Holds ops s x D t (st.fr t)
 mem : ∃ k, k ≤ ops.size ∧ st.h = (s k).h ∧ st.nx = (s k).nx ∧ ∀ i o, ops[i]? = some o → isW W o.op = true → (D i ↔ i < k)
theorem drawOk_parts (h : drawOk W ops = true) : (∀ j, j < ops.size → ∀ k ∈ edgesB ops j, k < j) ∧
    (∀ j i, j < ops.size → i < ops.size → bget (befs ops) j i = true → ∃ k ∈ edgesB ops j, k = i ∨ bget (befs ops) k i = true) ∧
    (∀ i j a b, i < j → ops[i]? = some a → ops[j]? = some b → clash W ops a b = true → bget (befs ops) j i = true) := by
  simp only [drawOk, Bool.and_eq_true, List.all_eq_true, List.mem_range, decide_eq_true_eq] at h
  obtain ⟨⟨h1, h2⟩, h3⟩ := h
  have lt : ∀ {i : Nat} {a : Oper}, ops[i]? = some a → i < ops.size := fun {i a} ha => by
    rcases Nat.lt_or_ge i ops.size with h | h
    · exact h
    · rw [Array.getElem?_eq_none h] at ha; cases ha
  refine ⟨h1, fun j i hj hi hb => ?_, fun i j a b hij ha hb hc => ?_⟩
  · have := h2 j hj i hi
    rw [hb] at this
    simp only [Bool.not_true, Bool.false_or, List.any_eq_true, Bool.or_eq_true, beq_iff_eq] at this
    exact this
  · have := h3 j (lt hb) i hij
    rw [ha, hb] at this
    simpa [hc] using this
theorem Drawn.before (hok : drawOk W ops = true) {D : Nat → Prop} {st : St} (hD : Drawn ops W s x D st) : ∀ j, D j → ∀ i, i < ops.size → bget (befs ops) j i = true → D i := by
  obtain ⟨h1, h2, _⟩ := drawOk_parts hok
  intro j
  induction j using Nat.strongRecOn with
  | _ j ih =>
    intro hj i hi hb
    obtain ⟨k, hk, hc⟩ := h2 j i (hD.lt j hj) hi hb
    have hDk := hD.shut j hj k hk
    rcases hc with rfl | hc
    · exact hDk
    · exact ih k (h1 j (hD.lt j hj) k hk) hDk i hi hc
end
section
variable {P : Program} {W : FuncId → Bool} {ops : Array Oper} {s : Nat → St} {x : Nat → AV} {Q : Exit → Act → World → Prop} {n : Nat}
def Lis (listed : Array Bool) (i : Nat) : Prop := listed.getD i false = true
theorem mem_edges {j k : Nat} : k ∈ edgesB ops j ↔ ∃ o, ops[j]? = some o ∧ ∃ e ∈ o.after, Region.binds .any e = true ∧ e.on = k := by
  unfold edgesB
  cases ho : ops[j]? with
  | none => simp
  | some o =>
    simp only [Option.map_some, Option.getD_some, List.mem_filterMap, Array.mem_toList_iff]
    constructor
    · rintro ⟨e, he, h⟩
      split at h
      · cases h; exact ⟨o, rfl, e, he, ‹_›, rfl⟩
      · cases h
    · rintro ⟨o', ho', e, he, hb, rfl⟩
      cases ho'
      exact ⟨e, he, by simp [hb]⟩
theorem mem_ready {listed : Array Bool} {i : Nat} (hs : listed.size = ops.size) : i ∈ Region.ready .any ops listed ↔ i < ops.size ∧ ¬ Lis listed i ∧ ∀ k ∈ edgesB ops i, Lis listed k := by
  simp only [Region.ready, List.mem_filter, List.mem_range, Bool.and_eq_true, Bool.not_eq_true']
  constructor
  · rintro ⟨h1, h2, h3⟩
    have ho : ops[i]? = some ops[i] := Array.getElem?_eq_getElem h1
    rw [ho] at h3
    simp only [Option.map_some, Option.getD_some] at h3
    refine ⟨h1, ?_, fun k hk => ?_⟩
    · unfold Lis
      rw [Array.getD_eq_getD_getElem?] at h2 ⊢
      rw [Array.getElem?_eq_getElem (by omega)] at h2 ⊢
      simpa using h2
    · obtain ⟨o, ho', e, he, hb, rfl⟩ := mem_edges.1 hk
      rw [ho] at ho'; cases ho'
      have := Array.all_eq_true_iff_forall_mem.1 h3 e he
      simp only [hb, Bool.not_true, Bool.false_or] at this
      exact this
  · rintro ⟨h1, h2, h3⟩
    have ho : ops[i]? = some ops[i] := Array.getElem?_eq_getElem h1
    refine ⟨h1, ?_, ?_⟩
    · unfold Lis at h2
      rw [Array.getD_eq_getD_getElem?] at h2 ⊢
      rw [Array.getElem?_eq_getElem (by omega)] at h2 ⊢
      simpa using h2
    · rw [ho]
      simp only [Option.map_some, Option.getD_some]
      refine Array.all_eq_true_iff_forall_mem.2 fun e he => ?_
      by_cases hb : Region.binds .any e = true
      · have := h3 e.on (mem_edges.2 ⟨_, ho, e, he, hb, rfl⟩)
        unfold Lis at this; simp [this]
      · have : Region.binds .any e = false := by simpa using hb
        simp [this]
theorem all_listedG (h1 : ∀ j, j < ops.size → ∀ k ∈ edgesB ops j, k < j) {listed : Array Bool} (hs : listed.size = ops.size) (h : Region.ready .any ops listed = []) : ∀ i, i < ops.size → Lis listed i := by
  intro i
  induction i using Nat.strongRecOn with
  | _ i ih =>
    intro hi
    by_cases hl : Lis listed i
    · exact hl
    · have : i ∈ Region.ready .any ops listed := (mem_ready hs).2 ⟨hi, hl, fun k hk => ih k (h1 i hi k hk) (Nat.lt_trans (h1 i hi k hk) hi)⟩
      rw [h] at this; simp at this
theorem drawn_end (hrun : RunF P W ops s x) {D : Nat → Prop} {st : St} (hD : Drawn ops W s x D st) (hall : ∀ i, i < ops.size → D i) : st = s ops.size := by
 have hf : st.fr = (s ops.size).fr := by
  funext t
  refine (hD.fr t).unique (text_fr hrun ops.size (Nat.le_refl _) t) fun i _ => ⟨hD.lt i, fun h => hall i h⟩
 obtain ⟨k, hk, h1, h2, h3⟩ := hD.mem
 have ht := text_h hrun (k := k) (ops.size - k) (by omega) (fun i o hi1 hi2 ho => by
  cases hw : isW W o.op with
  | false => rfl
  | true => have := (h3 i o ho hw).1 (hall i (by omega)); omega)
 rw [show k + (ops.size - k) = ops.size by omega] at ht
 cases hst : st with
 | mk fr h nx =>
  rw [hst] at hf h1 h2
  simp only at hf h1 h2
  cases hsn : s ops.size with
  | mk fr' h' nx' =>
   rw [hsn] at hf ht
   simp only at hf ht
   rw [hf, h1, h2, ht.1, ht.2]
theorem eval_tmp_looks {o : Oper} {y : Operand} (hy : y ∈ o.op.operands) {t : Nat} (ht : y = .tmp t) : t ∈ o.looksAt ops := by
 subst ht
 simp only [Oper.looksAt, List.mem_append, List.mem_filterMap]
 exact .inl ⟨.tmp t, by simpa using hy, rfl⟩
theorem drawn_step (hok : drawOk W ops = true) (hrun : RunF P W ops s x) {D : Nat → Prop} {st : St} (hD : Drawn ops W s x D st) {i : Nat} {o : Oper} (ho : ops[i]? = some o) (hni : ¬ D i) (hready : ∀ k ∈ edgesB ops i, D k) :
    ∃ st', OneStep P W ops st o (x i) st' ∧ Drawn ops W s x (fun j => D j ∨ j = i) st' := by
  obtain ⟨_, _, hcl⟩ := drawOk_parts hok
  have hi : i < ops.size := by
    rcases Nat.lt_or_ge i ops.size with h | h
    · exact h
    · rw [Array.getElem?_eq_none h] at ho; cases ho
  have hD' : ∀ j, j < ops.size → bget (befs ops) i j = true → D j := by
    obtain ⟨h1, h2, _⟩ := drawOk_parts hok
    intro j hj hb
    obtain ⟨k, hk, hc⟩ := h2 i j hi hj hb
    have hDk := hready k hk
    rcases hc with rfl | hc
    · exact hDk
    · exact hD.before hok k hDk j hj hc
  have hord : ∀ j b, ops[j]? = some b → (clash W ops b o = true ∨ clash W ops o b = true) → j ≠ i → (D j ↔ j < i) := by
    intro j b hb hc hne
    have hj : j < ops.size := by
      rcases Nat.lt_or_ge j ops.size with h | h
      · exact h
      · rw [Array.getElem?_eq_none h] at hb; cases hb
    have hsym : clash W ops b o = true ∧ clash W ops o b = true ∨ clash W ops b o = true ∨ clash W ops o b = true := .inr hc
    have swap : ∀ a b : Oper, clash W ops a b = true → clash W ops b a = true := by
      intro a b h
      cases h' : clash W ops b a with
      | true => rfl
      | false =>
        obtain ⟨q1, q2, q3, q4⟩ := clash_symm_spec h'
        exfalso
        simp only [clash, Bool.or_eq_true] at h
        rcases h with ((h | h) | h) | h
        · split at h
          · rename_i d hd
            rcases Bool.or_eq_true _ _ ▸ h with h | h
            · exact q2 d hd (by simpa using h)
            · have : b.dst = some d := by simpa using h
              exact (q1 d this).2 hd
          · cases h
        · split at h
          · rename_i d hd
            exact (q1 d hd).1 (by simpa using h)
          · cases h
        · rw [Bool.and_eq_true] at h
          have := q4 h.1; rw [h.2] at this; cases this
        · rw [Bool.and_eq_true] at h
          have := q3 h.2; rw [h.1] at this; cases this
    have hc1 : clash W ops b o = true := hc.elim id (swap o b)
    have hc2 : clash W ops o b = true := swap b o hc1
    constructor
    · intro hDj
      rcases Nat.lt_or_ge j i with h | h
      · exact h
      · exact absurd (hD.before hok j hDj i hi (hcl i j o b (by omega) ho hb hc2)) hni
    · intro hlt
      exact hD' j hj (hcl j i b o hlt hb ho hc1)
  have hlook : ∀ t, t ∈ o.looksAt ops → st.fr t = (s i).fr t := by
    intro t ht
    refine (hD.fr t).unique (text_fr hrun i (by omega) t) fun j hw => ?_
    have hw' := hw
    simp only [writes] at hw'
    cases hb : ops[j]? with
    | none => rw [hb] at hw'; cases hw'
    | some b =>
      rw [hb] at hw'
      simp only [Option.bind_some] at hw'
      by_cases hji : j = i
      · subst hji
        exact ⟨fun h => absurd h hni, fun h => by omega⟩
      · refine hord j b hb (.inl ?_) hji
        simp only [clash, hw']
        simp [ht]
  have hev : ∀ y ∈ o.op.operands, st.ev y = (s i).ev y := by
    intro y hy
    cases y with
    | tmp t => exact hlook t (eval_tmp_looks hy rfl)
    | const v => rfl
    | global g => rfl
    | func f => rfl
  obtain ⟨k, hk, hm1, hm2, hm3⟩ := hD.mem
  have hWi : isS o.op = true → ∀ j b, ops[j]? = some b → isW W b.op = true → j ≠ i → (D j ↔ j < i) := by
    intro hS j b hb hw hne
    refine hord j b hb (.inl ?_) hne
    simp [clash, hw, hS]
  have hmem : isS o.op = true → st.h = (s i).h ∧ st.nx = (s i).nx := by
    intro hS
    have hno : ∀ j b, min i k ≤ j → j < max i k → ops[j]? = some b → isW W b.op = false := by
      intro j b h1 h2 hb
      cases hw : isW W b.op with
      | false => rfl
      | true =>
        exfalso
        by_cases hji : j = i
        · subst hji
          rw [ho] at hb; cases hb
          have := hm3 j o ho hw
          exact hni (this.2 (by omega))
        · have a := hm3 j b hb hw
          have b' := hWi hS j b hb hw hji
          by_cases hDj : D j
          · have := a.1 hDj; have := b'.1 hDj; omega
          · have : ¬ j < k := fun h => hDj (a.2 h)
            have : ¬ j < i := fun h => hDj (b'.2 h)
            omega
    rcases Nat.le_total i k with h | h
    · have := text_h hrun (k := i) (k - i) (by omega) (fun j b h1 h2 hb => hno j b (by omega) (by omega) hb)
      rw [show i + (k - i) = k by omega] at this
      exact ⟨hm1.trans this.1, hm2.trans this.2⟩
    · have := text_h hrun (k := k) (i - k) (by omega) (fun j b h1 h2 hb => hno j b (by omega) (by omega) hb)
      rw [show k + (i - k) = i by omega] at this
      exact ⟨hm1.trans this.1.symm, hm2.trans this.2.symm⟩
  have hguard : guardA ops st o = guardA ops (s i) o := by
    unfold guardA
    cases hg : o.guard with
    | none => rfl
    | some p =>
      obtain ⟨j, want⟩ := p
      simp only
      cases hd : (ops[j]?).bind (·.dst) with
      | none => rfl
      | some d =>
        simp only
        rw [hlook d (by simp only [Oper.looksAt, List.mem_append, hg, hd]; exact .inr (by simp))]
  have hstep : ∃ st', OneStep P W ops st o (x i) st' ∧ st'.fr = (st.put o.dst (x i)).fr ∧ (isS o.op = true → st'.h = (s (i + 1)).h ∧ st'.nx = (s (i + 1)).nx) ∧ (isS o.op = false → st'.h = st.h ∧ st'.nx = st.nx) := by
    rcases hrun i o ho with ⟨hg, st1, h1, h2⟩ | ⟨hg, hx, h2⟩
    · obtain ⟨st2, k1, k2, k3, k4⟩ := opStep_congr h1 hev hmem
      refine ⟨st2.put o.dst (x i), .inl ⟨by rw [hguard]; exact hg, st2, k1, rfl⟩, ?_, fun hS => ?_, fun hS => ?_⟩
      · cases o.dst <;> simp [St.put, k2]
      · rw [(put_h ..).1, (put_h ..).2, h2, (put_h ..).1, (put_h ..).2]; exact k3 hS
      · rw [(put_h ..).1, (put_h ..).2]; exact k4 hS
    · refine ⟨st.put o.dst (.tup []), .inr ⟨by rw [hguard]; exact hg, hx, rfl⟩, by rw [hx], fun hS => ?_, fun _ => by rw [(put_h ..).1, (put_h ..).2]; exact ⟨rfl, rfl⟩⟩
      rw [(put_h ..).1, (put_h ..).2, h2, (put_h ..).1, (put_h ..).2]; exact hmem hS
  obtain ⟨st', g1, g2, g3, g4⟩ := hstep
  refine ⟨st', g1, ⟨?_, ?_, ?_, ?_⟩⟩
  · rintro j (hj | rfl) k hk
    · exact .inl (hD.shut j hj k hk)
    · exact .inl (hready k hk)
  · rintro j (hj | rfl)
    · exact hD.lt j hj
    · exact hi
  · intro t
    rw [g2]
    by_cases hw : writes ops i t
    · have hd : o.dst = some t := by simpa [writes, ho] using hw
      refine .inl ⟨i, .inr rfl, hw, ?_, by rw [hd]; simp [St.put, upd]⟩
      rintro j (hj | rfl) hwj
      · have hb' := hwj
        simp only [writes] at hb'
        cases hb : ops[j]? with
        | none => rw [hb] at hb'; cases hb'
        | some b =>
          rw [hb] at hb'
          simp only [Option.bind_some] at hb'
          have hne : j ≠ i := fun e => hni (e ▸ hj)
          have := (hord j b hb (.inl (by simp [clash, hb', hd])) hne).1 hj
          omega
      · exact Nat.le_refl _
    · have hv : (st.put o.dst (x i)).fr t = st.fr t := by
        cases hd : o.dst with
        | none => rfl
        | some d =>
          have hne : t ≠ d := fun e => hw (by simp [writes, ho, hd, e])
          simp [St.put, upd, hne]
      rw [hv]
      rcases hD.fr t with ⟨j, a1, a2, a3, a4⟩ | ⟨a1, a2⟩
      · refine .inl ⟨j, .inl a1, a2, ?_, a4⟩
        rintro j' (h | rfl) hw'
        · exact a3 j' h hw'
        · exact absurd hw' hw
      · refine .inr ⟨?_, a2⟩
        rintro j (h | rfl) hw'
        · exact a1 j h hw'
        · exact hw hw'
  · by_cases hwi : isW W o.op = true
    · have hS := isW_isS hwi
      obtain ⟨e1, e2⟩ := g3 hS
      refine ⟨i + 1, by omega, e1, e2, fun j b hb hw => ?_⟩
      by_cases hji : j = i
      · subst hji; exact ⟨fun _ => by omega, fun _ => .inr rfl⟩
      · have := hWi hS j b hb hw hji
        constructor
        · rintro (h | h)
          · have := this.1 h; omega
          · exact absurd h hji
        · intro h; exact .inl (this.2 (by omega))
    · have hwi' : isW W o.op = false := by simpa using hwi
      have hsame : st'.h = st.h ∧ st'.nx = st.nx := (oneStep_fr g1).2 hwi'
      refine ⟨k, hk, hsame.1.trans hm1, hsame.2.trans hm2, fun j b hb hw => ?_⟩
      have hji : j ≠ i := by
        rintro rfl
        rw [ho] at hb; cases hb
        exact hwi hw
      rw [← hm3 j b hb hw]
      exact ⟨fun h => h.elim id (fun e => absurd e hji), .inl⟩
theorem draw_anyG (h1' : ∀ j, j < ops.size → ∀ k ∈ edgesB ops j, k < j) (hrun : RunF P W ops s x) (hstep : ∀ (D : Nat → Prop) (st : St), Drawn ops W s x D st → ∀ (i : Nat) (o : Oper), ops[i]? = some o → ¬ D i → (∀ k ∈ edgesB ops i, D k) → ∃ st', OneStep P W ops st o (x i) st' ∧ Drawn ops W s x (fun j => D j ∨ j = i) st') (hd : ∀ o ∈ ops, ∀ d, o.dst = some d → d < n) {w0 : Env}
    (hQ : ∀ a' E', Rel P E' (s ops.size) a' → a'.tmps.size = n → a'.defers = [] → w0.Le E' → Goes P w0 E' → Q .normal a' E'.w) : ∀ (fuel : Nat) (listed : Array Bool) (a : Act) (E : Env) (st : St), listed.size = ops.size →
    listed.toList.count false ≤ fuel → Rel P E st a → a.tmps.size = n → a.defers = [] → Ok P w0 → w0.Le E → Goes P w0 E → Drawn ops W s x (Lis listed) st → wpAny P .any ops Q fuel listed a E.w := by
  intro fuel
  have done : ∀ (listed : Array Bool) (a : Act) (E : Env) (st : St), listed.size = ops.size → Region.ready .any ops listed = [] → Rel P E st a → a.tmps.size = n → a.defers = [] → w0.Le E → Goes P w0 E → Drawn ops W s x (Lis listed) st → Q .normal a E.w := by
    intro listed a E st hs hr hR hn hdf hle hgo hD
    have := drawn_end hrun hD (all_listedG h1' hs hr)
    subst this
    exact hQ a E hR hn hdf hle hgo
  induction fuel with
  | zero =>
    intro listed a E st hs hc hR hn hdf hok0 hle hgo hD
    have hr : Region.ready .any ops listed = [] := by
      rw [List.eq_nil_iff_forall_not_mem]
      intro i hi
      obtain ⟨h1, h2, _⟩ := (mem_ready hs).1 hi
      have h0 : listed.toList.count false = 0 := by omega
      rw [List.count_eq_zero] at h0
      refine h0 ?_
      unfold Lis at h2
      rw [Array.getD_eq_getD_getElem?, Array.getElem?_eq_getElem (by omega)] at h2
      have : listed[i] = false := by simpa using h2
      rw [← this]; exact Array.getElem_mem_toList _
    exact ⟨hr, done listed a E st hs hr hR hn hdf hle hgo hD⟩
  | succ fuel ih =>
    intro listed a E st hs hc hR hn hdf hok0 hle hgo hD
    refine ⟨fun hr => done listed a E st hs hr hR hn hdf hle hgo hD, fun i hi => ?_⟩
    obtain ⟨h1, h2, h3⟩ := (mem_ready hs).1 hi
    have ho : ops[i]? = some ops[i] := Array.getElem?_eq_getElem h1
    obtain ⟨st', g1, g2⟩ := hstep _ _ hD _ _ ho h2 h3
    refine oneStep_sound ho hR (fun d hdd => by rw [hn]; exact hd _ (Array.mem_of_getElem? ho) d hdd) g1 _ fun a' E' k1 k2 k3 k4 k5 => ?_
    have hL : ∀ j, Lis (listed.setIfInBounds i true) j ↔ Lis listed j ∨ j = i := by
      intro j
      unfold Lis
      rw [Array.getD_eq_getD_getElem?, Array.getD_eq_getD_getElem?]
      by_cases hji : j = i
      · subst hji
        rw [Array.getElem?_setIfInBounds_self, if_pos (by omega)]
        simp
      · rw [Array.getElem?_setIfInBounds_ne (fun e => hji e.symm)]
        simp [hji]
    refine ih _ a' E' st' (by simpa using hs) ?_ k1 (by rw [k2, hn]) (by rw [k3, hdf]) hok0 (hle.trans k4) (hgo.trans hok0 k5) ?_
    · have hfalse : listed.toList[i]'(by simp; omega) = false := by
        unfold Lis at h2
        rw [Array.getD_eq_getD_getElem?, Array.getElem?_eq_getElem (by omega)] at h2
        simpa using h2
      rw [Array.toList_setIfInBounds, List.count_set (by simp; omega), hfalse]
      have e1 : (if (false == false) = true then 1 else 0) = 1 := rfl
      have e2 : (if (true == false) = true then 1 else 0) = 0 := rfl
      rw [e1, e2]; omega
    · have : (fun j => Lis listed j ∨ j = i) = Lis (listed.setIfInBounds i true) := by
        funext j; exact propext (hL j).symm
      rw [← this]; exact g2
theorem draw_any (hok : drawOk W ops = true) (hrun : RunF P W ops s x) (hd : ∀ o ∈ ops, ∀ d, o.dst = some d → d < n) {w0 : Env}
  (hQ : ∀ a' E', Rel P E' (s ops.size) a' → a'.tmps.size = n → a'.defers = [] → w0.Le E' → Goes P w0 E' → Q .normal a' E'.w) : ∀ (fuel : Nat) (listed : Array Bool) (a : Act) (E : Env) (st : St), listed.size = ops.size →
  listed.toList.count false ≤ fuel → Rel P E st a → a.tmps.size = n → a.defers = [] → Ok P w0 → w0.Le E → Goes P w0 E → Drawn ops W s x (Lis listed) st → wpAny P .any ops Q fuel listed a E.w :=
 draw_anyG (drawOk_parts hok).1 hrun (fun _ _ hD _ _ ho hni hr => drawn_step hok hrun hD ho hni hr) hd hQ
end
end Go.Proofs.YtdljcbbodihagaaGreatDoor
