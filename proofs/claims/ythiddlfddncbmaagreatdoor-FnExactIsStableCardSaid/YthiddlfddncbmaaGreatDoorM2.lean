/- Ground 2. -/
import Derived.Scope
import Derived.Test.YthiddlfddncbmaaGreatDoorM1

set_option linter.unusedVariables false
set_option linter.unusedSimpArgs false
set_option maxRecDepth 100000
namespace Go.Proofs.YthiddlfddncbmaaGreatDoor
open Go

theorem GF : ∀ (io : List (Nat × Nat × Nat)) (outs : List (List AV)) (h : Nat → Blk), (io.map (·.1)).Nodup → outs.length = io.length →
  (∀ i, i ∉ io.map (·.1) → outH h io outs i = h i) ∧
  (∀ (k : Nat) (q : Nat × Nat × Nat) (ys : List AV), io[k]? = some q → outs[k]? = some ys → outH h io outs q.1 = { h q.1 with xs := (h q.1).xs.take q.2.1 ++ ys ++ (h q.1).xs.drop (q.2.1 + q.2.2) })
 | [], outs, h, _, _ => ⟨fun i _ => by cases outs <;> rfl, fun k q ys hk => by simp at hk⟩
 | (id, off, len) :: io, outs, h, hnd, hl => by
  cases outs with
  | nil => simp at hl
  | cons ys yss =>
   simp only [List.map_cons, List.nodup_cons] at hnd
   obtain ⟨h1, h2⟩ := GF io yss (upd h id { h id with xs := (h id).xs.take off ++ ys ++ (h id).xs.drop (off + len) }) hnd.2 (by simpa using hl)
   refine ⟨fun i hi => ?_, fun k q zs hk hz => ?_⟩
   ·simp only [List.map_cons, List.mem_cons, not_or] at hi
    simp only [outH]
    rw [h1 i hi.2, PU _ _ hi.1]
   ·cases k with
    | zero =>
     simp only [List.getElem?_cons_zero, Option.some.injEq] at hk hz
     subst hk; subst hz
     simp only [outH]
     rw [h1 id hnd.1]
     simp [upd]
    | succ k =>
     simp only [List.getElem?_cons_succ] at hk hz
     have := h2 k q zs hk hz
     simp only [outH]
     rw [this]
     have hne : q.1 ≠ id := fun e => hnd.1 (e ▸ List.mem_map_of_mem (List.mem_of_getElem? hk))
     rw [PU _ _ hne]
theorem Goes.mat {P : Program} {g : Bool} {E E1 E2 : Env} {L : List OLoc} (h1 : Ok P E1) (h : Goes P E E1) (hm : MatOk P g E1 E2 L) (hL : ∀ o ∈ L, E.w.heap.size ≤ o.l.b) (hnx : E1.nx = E.nx) : Goes P E E2 := by
 refine ⟨by rw [hm.w]; exact h.os, by rw [hm.w]; exact h.tape, by rw [hm.w]; exact h.output, by rw [hm.w]; exact h.size, fun b hb hn => by rw [hm.w]; exact h.keep b hb hn, fun id hid c hc => by rw [hm.w]; exact h.part id hid c hc, fun id hid => ?_, fun b hb => h.dark b (by rw [← hm.I]; exact hb), by rw [← hnx]; exact hm.le.nx, fun id hid => ?_⟩
 ·by_cases hlt : id < E1.nx
  ·obtain ⟨e1, e2⟩ := hm.old id hlt
   rw [e2] at hid
   rcases h.locs id hid with ⟨a1, a2, a3, a4⟩ | ⟨a1, a2⟩
   ·refine .inl ⟨a1, e1.trans a2, by rw [e2]; exact a3, ?_⟩
    rw [← a4]; simp [Env.lim, e1, e2]
   ·exact .inr ⟨by rw [e1]; exact a1, a2⟩
  ·rcases hm.new id hid with ⟨a1, _, _⟩ | ⟨o, ho, a1, _⟩
   ·exact absurd (h1.blk id a1).lt hlt
   ·exact .inr ⟨by rw [a1]; exact hL o ho, .inl zO⟩
 ·have := (hm.old id zO).2
  rw [this]; exact h.grs id hid
theorem M3 (h : Nat → Blk) (ids : List Nat) (i : Nat) : (eatH h ids i).t = (h i).t ∧ (eatH h ids i).xs = (h i).xs ∧ (eatH h ids i).ex = (h i).ex ∧ (eatH h ids i).gr = (h i).gr ∧
  ((eatH h ids i).lv = true ↔ (h i).lv = true ∧ i ∉ ids) := by
 unfold eatH; split <;> simp_all
theorem FG : ∀ a b : List AV, AV.solidL (a ++ b) = (AV.solidL a && AV.solidL b)
 | [], b => by simp [AV.solidL]
 | x :: a, b => by simp [AV.solidL, FG a b, Bool.and_assoc]
theorem HL : ∀ (yss : List (List AV)), AV.solidL yss.flatten = true → ∀ ys ∈ yss, AV.solidL ys = true
 | [], _, ys, h => by simp at h
 | z :: zs, hs, ys, h => by
  rw [List.flatten_cons, FG, Bool.and_eq_true] at hs
  rcases List.mem_cons.1 h with rfl | h
  ·exact hs.1
  ·exact HL zs hs.2 ys h
theorem KX {P : Program} {E : Env} (hE : Ok P E) {w' : World} {I' : Nat → Prop} {S : List Nat} {io : List (Nat × Nat × Nat)} {eat : List Nat} {L : List OLoc} {outs : List (List AV)}
  (hp : PassOk P E io eat L) (hnd : (io.map (·.1) ++ eat).Nodup) (hS : ∀ i ∈ S, (E.h i).lv = true) (hdis : ∀ i ∈ S, i ∉ io.map (·.1) ++ eat) (hty : S = [] ∨ AV.solidL outs.flatten = true)
  (hF : Frm P E.w w' L) (hI1 : ∀ b, (E.shut S).I b → I' b) (hI2 : ∀ b, I' b → (E.shut S).I b ∨ E.w.heap.size ≤ b) (hI3 : ∀ b, I' b → b < w'.heap.size)
  (hio : io = [] ∨ eat = [] ∧ outs.length = io.length)
  (ho : outs = [] ∨ outs.length = L.length ∧ ∀ (k : Nat) (o : OLoc) (ys : List AV), L[k]? = some o → outs[k]? = some ys → outOk P (bare w' I') o ys) :
  let E1 : Env := ⟨w', fun b => E.I b ∨ (E.w.heap.size ≤ b ∧ I' b), E.m, eatH (outH E.h io outs) eat, E.nx⟩
  E.Le E1 ∧ Ok P E1 ∧ Goes P E E1 ∧ ∀ id, (E1.h id).lv = true → (E.h id).lv = true := by
 intro E1
 rw [List.nodup_append] at hnd
 obtain ⟨hnd1, hnd2, hnd3⟩ := hnd
 have hmb : ∀ id, (E.h id).lv = true → (E.m id).b < E.w.heap.size := fun id h => by
  obtain ⟨c, vs, h1, _⟩ := (hE.blk id h).at_; exact BC h1
 have hLb : ∀ o ∈ L, ∃ a, (E.h a).lv = true ∧ a ∈ io.map (·.1) ++ eat ∧ o.l.b = (E.m a).b ∧ o.t = (E.h a).t ∧
   (E.m a).base ≤ o.l.base ∧ o.l.base + o.n * szT P o.t ≤ (E.m a).base + (E.h a).xs.length * szT P (E.h a).t := by
  intro o ho
  rcases hp.each o ho with ⟨q, hq, rfl⟩ | ⟨a, ha, h1, h2, h3⟩
  ·obtain ⟨g1, g2, g3⟩ := hp.ios q hq
   refine ⟨q.1, g1, List.mem_append_left _ (List.mem_map_of_mem hq), rfl, rfl, by simp [ioL], ?_⟩
   simp only [ioL]
   rw [Nat.add_assoc, ← Nat.add_mul]
   exact Nat.add_le_add_left (Nat.mul_le_mul_right _ g2) _
  ·refine ⟨a, hp.eats a ha, List.mem_append_right _ ha, by rw [h1], h2, by rw [h1]; exact Nat.le_refl _, ?_⟩
   rw [h1, h2]
   exact Nat.add_le_add_left (Nat.mul_le_mul_right _ h3) _
 have hsame : ∀ id, (E.h id).lv = true → id ∉ io.map (·.1) ++ eat → w'.heap[(E.m id).b]? = E.w.heap[(E.m id).b]? := by
  intro id hlv hn
  refine hF.same _ (hmb id hlv) fun o ho e => ?_
  obtain ⟨a, h1, h2, h3, _⟩ := hLb o ho
  exact hn (hE.inj a id h1 hlv (by rw [← h3]; exact e) ▸ h2)
 have hdark : ∀ b, E.I b → w'.heap[b]? = E.w.heap[b]? := by
  intro b hb
  refine hF.same _ (hE.imm b hb) fun o ho e => ?_
  obtain ⟨a, h1, _, h3, _⟩ := hLb o ho
  exact (hE.blk a h1).dark (by rw [← h3, e]; exact hb)
 have hH : ∀ i, (E1.h i).t = (E.h i).t ∧ (E1.h i).ex = (E.h i).ex ∧ (E1.h i).gr = (E.h i).gr ∧ (E1.h i).xs.length = (E.h i).xs.length ∧ ((E1.h i).lv = true → (E.h i).lv = true ∧ i ∉ eat) ∧
   (i ∉ io.map (·.1) → (E1.h i).xs = (E.h i).xs) := by
  intro i
  obtain ⟨a1, a2, a3, a4, a5⟩ := M3 (outH E.h io outs) eat i
  show (eatH (outH E.h io outs) eat i).t = _ ∧ _
  have key : (outH E.h io outs i).t = (E.h i).t ∧ (outH E.h io outs i).ex = (E.h i).ex ∧ (outH E.h io outs i).gr = (E.h i).gr ∧ (outH E.h io outs i).lv = (E.h i).lv ∧
    (outH E.h io outs i).xs.length = (E.h i).xs.length ∧ (i ∉ io.map (·.1) → (outH E.h io outs i).xs = (E.h i).xs) := by
   rcases hio with rfl | ⟨he, hl⟩
   ·cases outs <;> simp [outH]
   ·obtain ⟨s1, s2⟩ := GF io outs E.h hnd1 hl
    by_cases hi : i ∈ io.map (·.1)
    ·obtain ⟨q, hq, rfl⟩ := List.mem_map.1 hi
     obtain ⟨k, hk⟩ := List.getElem?_of_mem hq
     have hkl : k < outs.length := by
      rw [hl]
      rcases Nat.lt_or_ge k io.length with h | h
      ·exact h
      ·rw [List.getElem?_eq_none h] at hk; cases hk
     have e := s2 k q _ hk (List.getElem?_eq_getElem hkl)
     have hL : L = io.map (ioL P E) := hp.onlyIo he
     have hLk : L[k]? = some (ioL P E q) := by rw [hL, List.getElem?_map, hk]; rfl
     have hlen : outs[k].length = q.2.2 := by
      rcases ho with h | ⟨_, h⟩
      ·rw [h] at hkl; simp at hkl
      ·exact (h k _ _ hLk (List.getElem?_eq_getElem hkl)).1
     obtain ⟨g1, g2, g3⟩ := hp.ios q hq
     rw [e]
     refine ⟨rfl, rfl, rfl, rfl, ?_, fun h => absurd hi h⟩
     have := A3 (l := (E.h q.1).xs) (ns := outs[k]) (o := q.2.1) zO
     rw [hlen] at this; exact this
    ·rw [s1 i hi]; exact ⟨rfl, rfl, rfl, rfl, rfl, fun _ => rfl⟩
  obtain ⟨k1, k2, k3, k4, k5, k6⟩ := key
  refine ⟨a1.trans k1, a3.trans k2, a4.trans k3, by rw [show (E1.h i).xs = (outH E.h io outs i).xs from a2]; exact k5, fun h => ?_, fun h => a2.trans (k6 h)⟩
  obtain ⟨h1, h2⟩ := a5.1 h
  exact ⟨by rw [← k4]; exact h1, h2⟩
 have hlim : ∀ i, E1.lim i = E.lim i := fun i => by
  obtain ⟨_, _, h3, h4, _⟩ := hH i
  simp only [Env.lim, h3, h4]; rfl
 have hLe : E.Le E1 := by
  refine ⟨Nat.le_refl _, fun b hb => ⟨.inl hb, hdark b hb⟩, fun i hi => Nat.le_of_eq (hH i).2.2.2.1.symm, fun i hi n hn h1 h2 => ?_⟩
  obtain ⟨a1, a2, a3, a4, a5, _⟩ := hH i
  exact ⟨(a5 h1).1, by rw [← a4]; exact h2, a1, rfl⟩
 have hnotI : ∀ id, (E.h id).lv = true → ¬ E1.I (E.m id).b := by
  rintro id hlv (h | ⟨h, _⟩)
  ·exact (hE.blk id hlv).dark h
  ·exact absurd (hmb id hlv) zO
 refine ⟨hLe, ⟨fun id hid => ?_, fun i j hi hj hij => hE.inj i j ((hH i).2.2.2.2.1 hi).1 ((hH j).2.2.2.2.1 hj).1 hij, fun b hb => ?_, hE.tab.le hLe⟩, ?_⟩
 ·obtain ⟨a1, a2, a3, a4, a5, a6⟩ := hH id
  obtain ⟨hlv, hne⟩ := a5 hid
  have B := hE.blk id hlv
  by_cases hi : id ∈ io.map (·.1)
  ·-- a block that was written
   obtain ⟨q, hq, rfl⟩ := List.mem_map.1 hi
   rcases hio with rfl | ⟨he, hl⟩
   ·simp at hq
   ·obtain ⟨k, hk⟩ := List.getElem?_of_mem hq
    have hkl : k < outs.length := by
     rw [hl]
     rcases Nat.lt_or_ge k io.length with h | h
     ·exact h
     ·rw [List.getElem?_eq_none h] at hk; cases hk
    have hL : L = io.map (ioL P E) := hp.onlyIo he
    have hLk : L[k]? = some (ioL P E q) := by rw [hL, List.getElem?_map, hk]; rfl
    have hok : outOk P (bare w' I') (ioL P E q) outs[k] := by
     rcases ho with h | ⟨_, h⟩
     ·rw [h] at hkl; simp at hkl
     ·exact h k _ _ hLk (List.getElem?_eq_getElem hkl)
    obtain ⟨o1, o2, o3, c1, ws, o4, o5, o6⟩ := hok
    obtain ⟨g1, g2, g3⟩ := hp.ios q hq
    obtain ⟨c, vs, hb, hrl, hca, hcs⟩ := B.at_
    obtain ⟨c', p1, p2, p3⟩ := hF.part (ioL P E q) (List.mem_of_getElem? hLk) c hb
    have hcc : c' = c1 := by
     have := p1.symm.trans o4
     simpa using this
    subst hcc
    have hxs : (E1.h q.1).xs = (E.h q.1).xs.take q.2.1 ++ outs[k] ++ (E.h q.1).xs.drop (q.2.1 + q.2.2) := by
     have e := (GF io outs E.h hnd1 hl).2 k q _ hk (List.getElem?_eq_getElem hkl)
     have := (M3 (outH E.h io outs) eat q.1).2.1
     show (eatH (outH E.h io outs) eat q.1).xs = _
     rw [this, e]
    have hoq : outs[k].length = q.2.2 := o1
    have hys : repL P E1 outs[k] ws := by
     refine Bb (E := bare w' I') (E' := E1) rfl _ _ o2 (hty.elim (fun he => .inr fun b hb' => ?_) fun he => .inl (HL outs he _ (List.getElem_mem hkl))) o5
     rcases hI2 b hb' with (h | ⟨i, hi, h1, h2⟩) | h
     ·exact .inl h
     ·rw [he] at hi; simp at hi
     ·exact .inr ⟨h, hb'⟩
    refine ⟨B.lt, by rw [a3]; exact B.gr, by rw [a2, a4]; exact B.ex, by rw [a4]; exact B.le, ?_, hnotI _ hlv, ⟨c', vs.take q.2.1 ++ ws ++ vs.drop (q.2.1 + q.2.2), by rw [a1]; exact o4, ?_, ?_, ?_⟩⟩
    ·rw [hxs, a1]
     intro x hx
     simp only [List.mem_append] at hx
     rcases hx with (hx | hx) | hx
     ·exact B.cl x (List.mem_of_mem_take hx)
     ·exact o3 x hx
     ·exact B.cl x (List.mem_of_mem_drop hx)
    ·rw [hxs]
     have := Ax hLe _ _ hrl
     exact Ap (Ap (BV this _) hys) (BO this _)
    ·rw [a1]
     have hvl := AO hrl
     have hwl := AO o5
     have hfw : (flat ws).length = q.2.2 * szT P (E.h q.1).t := by rw [BF o6.sizes, hwl, hoq]; rfl
     have hfv : (flat vs).length = (E.h q.1).xs.length * szT P (E.h q.1).t := by rw [BF hca.sizes, hvl]
     have hmul : (q.2.1 + q.2.2) * szT P (E.h q.1).t ≤ (E.h q.1).xs.length * szT P (E.h q.1).t := Nat.mul_le_mul_right _ g2
     have hm2 : (q.2.1 + q.2.2) * szT P (E.h q.1).t = q.2.1 * szT P (E.h q.1).t + q.2.2 * szT P (E.h q.1).t := Nat.add_mul _ _ _
     refine CellsAt.of_flat (fun v hv => ?_) fun p u hp' => ?_
     ·simp only [List.mem_append] at hv
      rcases hv with (hv | hv) | hv
      ·exact hca.sizes v (List.mem_of_mem_take hv)
      ·exact o6.sizes v hv
      ·exact hca.sizes v (List.mem_of_mem_drop hv)
     ·rw [CM, CM, F8 _ hca.sizes, F9 _ hca.sizes, hm2, ← hfw] at hp'
      rw [BZ zO] at hp'
      by_cases q1 : p < q.2.1 * szT P (E.h q.1).t
      ·rw [if_pos q1] at hp'
       show c'[(E.m q.1).base + p]? = some u
       rw [p3 _ (.inl (by show _ < (E.m q.1).base + q.2.1 * szT P (E.h q.1).t; omega))]
       exact hca.flat_get p u hp'
      ·rw [if_neg q1] at hp'
       by_cases q2 : p < q.2.1 * szT P (E.h q.1).t + (flat ws).length
       ·rw [if_pos q2] at hp'
        have := o6.flat_get _ u hp'
        rw [← this]
        show c'[(E.m q.1).base + p]? = c'[(E.m q.1).base + q.2.1 * szT P (E.h q.1).t + (p - q.2.1 * szT P (E.h q.1).t)]?
        congr 1; omega
       ·rw [if_neg q2] at hp'
        show c'[(E.m q.1).base + p]? = some u
        rw [p3 _ (.inr (by show (E.m q.1).base + q.2.1 * szT P (E.h q.1).t + q.2.2 * szT P (E.h q.1).t ≤ _; omega))]
        exact hca.flat_get p u hp'
    ·rw [a1, p2]; exact hcs
  ·have hn : id ∉ io.map (·.1) ++ eat := fun h => (List.mem_append.1 h).elim hi hne
   have hh : E1.h id = E.h id := by
    have e1 := a6 hi
    have e2 : (E1.h id).lv = (E.h id).lv := by rw [hid, hlv]
    cases hx : E1.h id; cases hy : E.h id
    rw [hx] at a1 a2 a3 e1 e2; rw [hy] at a1 a2 a3 e1 e2
    simp only at a1 a2 a3 e1 e2
    subst a1; subst a2; subst a3; subst e1; subst e2; rfl
   exact B.move hLe hh rfl (hsame id hlv hn) (hnotI id hlv)
 ·rcases hb with h | ⟨_, h⟩
  ·exact Nat.lt_of_lt_of_le (hE.imm b h) hF.size
  ·exact hI3 b h
 ·refine ⟨?_, fun id hid => ((hH id).2.2.2.2.1 hid).1⟩
  refine ⟨hF.os, hF.tape, hF.output, hF.size, fun b hb hn => hF.same b hb fun o ho e => ?_, fun id hid c hc => ?_, fun id hid => ?_, fun b hb => hb.imp id (fun h => .inl h.1), Nat.le_refl _, fun id _ => (hH id).2.2.1⟩
  ·obtain ⟨a, h1, _, h3, _⟩ := hLb o ho
   exact hn a h1 (by rw [← h3]; exact e)
  ·by_cases hm : ∃ o ∈ L, o.l.b = (E.m id).b
   ·obtain ⟨o, ho', e⟩ := hm
    obtain ⟨a, h1, _, h3, h4, h5, h6⟩ := hLb o ho'
    have : a = id := hE.inj a id h1 hid (by rw [← h3]; exact e)
    subst this
    obtain ⟨c', p1, p2, p3⟩ := hF.part o ho' c (by rw [e, h4]; exact hc)
    rw [e, h4] at p1
    refine ⟨c', p1, p2, fun j hj => p3 j ?_⟩
    have hl : (E.h a).xs.length * szT P (E.h a).t ≤ E.lim a * szT P (E.h a).t := Nat.mul_le_mul_right _ (by
     have := (hE.blk a h1).le
     unfold Env.lim; split <;> omega)
    omega
   ·exact ⟨c, (hF.same _ (hmb id hid) fun o ho e => hm ⟨o, ho, e⟩).trans hc, rfl, fun _ _ => rfl⟩
  ·obtain ⟨a1, a2, a3, a4, a5, a6⟩ := hH id
   exact .inl ⟨(a5 hid).1, rfl, a1, hlim id⟩
theorem Lx {P : Program} {E : Env} {st st' : St} {g : FuncId} {as0 : List AV} {vs : List Value} {x : AV} (hE : Ok P E) (hh : st.h = E.h) (hnx : st.nx = E.nx) (has : repL P E as0 vs) (h : CallStep P st g as0 x st') :
  st'.fr = st.fr ∧ Calls P g vs.toArray E.w fun e w' => ∃ v E', e = .returned v ∧ E'.w = w' ∧ E'.h = st'.h ∧ E'.nx = st'.nx ∧ E.Le E' ∧ Ok P E' ∧ Goes P E E' ∧ rep P E' x v := by
 obtain ⟨pm, sargs, sids, io, eat, r, outs, h1, h2, h3, h4, h5, h6, h7⟩ := h.ex
 have hxst : x = (matA true r { st with h := eatH (outH st.h io outs) eat }).1 ∧ st' = (matA true r { st with h := eatH (outH st.h io outs) eat }).2 := by
  exact ⟨congrArg Prod.fst h7, congrArg Prod.snd h7⟩
 obtain ⟨rfl, rfl⟩ := hxst
 have hlive : ∀ i ∈ sids, (E.h i).lv = true := by
  have : ∀ (pm : List PM) (as0 sargs : List AV) (sids : List Nat) (io : List (Nat × Nat × Nat)) (eat : List Nat) (vs : List Value), passL st pm as0 = some (sargs, sids, io, eat) → repL P E as0 vs → ∀ i ∈ sids, (E.h i).lv = true := by
   intro pm
   induction pm with
   | nil => intro as0 sargs sids io eat vs h _ i hi; cases as0 with
    | nil => simp only [passL, Option.some.injEq, Prod.mk.injEq] at h; rw [← h.2.1] at hi; simp at hi
    | cons _ _ => simp [passL] at h
   | cons m pm ih =>
    intro as0 sargs sids io eat vs h hr i hi
    cases as0 with
    | nil => simp [passL] at h
    | cons a as0 =>
     simp only [passL] at h
     obtain ⟨⟨y, i1, o1, e1⟩, h1, h⟩ := Option.bind_eq_some_iff.1 h
     obtain ⟨⟨ys, i2, o2, e2⟩, h2, h⟩ := Option.bind_eq_some_iff.1 h
     simp only [Option.some.injEq, Prod.mk.injEq] at h
     obtain ⟨rfl, rfl, rfl, rfl⟩ := h
     simp only [repL] at hr
     obtain ⟨v, us, rfl, hv, hus⟩ := hr
     rcases List.mem_append.1 hi with hi | hi
     ·cases m with
      | snap =>
       simp only [passA, Option.map_eq_some_iff, Prod.mk.injEq] at h1
       obtain ⟨⟨y', i'⟩, hsn, rfl, rfl, rfl, rfl⟩ := h1
       exact (C1 hE hh 8 a y' i' v hsn hv).2.2 i hi
      | io =>
       cases a <;> simp only [passA] at h1 <;> try (simp at h1; done)
       split at h1
       ·simp only [Option.some.injEq, Prod.mk.injEq] at h1
        rw [← h1.2.1] at hi; simp at hi
       ·cases h1
      | eat =>
       simp only [passA, Option.map_eq_some_iff, Prod.mk.injEq] at h1
       obtain ⟨_, _, _, rfl, _⟩ := h1
       simp at hi
     ·exact ih as0 ys i2 o2 e2 us h2 hus i hi
  exact this pm as0 sargs sids io eat vs h1 has
 obtain ⟨L, r1, r2⟩ := KW hE hh sids hlive pm as0 sargs sids io eat vs h1 has (fun _ h => h) h4
 have hmb : ∀ id, (E.h id).lv = true → (E.m id).b < E.w.heap.size := fun id h => by
  obtain ⟨c, vs, h1, _⟩ := (hE.blk id h).at_; exact BC h1
 have hIc : ∀ b, (E.shut sids).I b → b < E.w.heap.size := by
  rintro b (h | ⟨i, _, h1, h2⟩)
  ·exact hE.imm b h
  ·rw [← h2]; exact hmb i h1
 have hLnd : (L.map (·.l.b)).Nodup := by
  have hnd := h3
  rw [List.nodup_append] at hnd
  have inj : ∀ (ids : List Nat), (∀ i ∈ ids, (E.h i).lv = true) → ids.Nodup → (ids.map fun i => (E.m i).b).Nodup := by
   intro ids
   induction ids with
   | nil => simp
   | cons a ids ih =>
    intro hl hn
    simp only [List.nodup_cons, List.map_cons] at hn ⊢
    refine ⟨fun hm => ?_, ih (fun i hi => hl i (by simp [hi])) hn.2⟩
    obtain ⟨j, hj, e⟩ := List.mem_map.1 hm
    exact hn.1 (hE.inj j a (hl j (by simp [hj])) (hl a zS) e ▸ hj)
  rcases h6 with rfl | ⟨rfl, _⟩
  ·have := r2.blocks.2 rfl
   have e : L.map (·.l.b) = eat.map fun i => (E.m i).b := by
    have := congrArg (List.map Loc.b) this
    simpa [List.map_map, Function.comp_def] using this
   rw [e]; exact inj eat r2.eats hnd.2.1
  ·rw [r2.onlyIo rfl]
   have e : (io.map (ioL P E)).map (·.l.b) = (io.map (·.1)).map fun i => (E.m i).b := by simp [List.map_map, Function.comp_def, ioL]
   rw [e]
   exact inj _ (fun i hi => by obtain ⟨q, hq, rfl⟩ := List.mem_map.1 hi; exact (r2.ios q hq).1) hnd.1
 have hcall := h2 E.w (E.shut sids).I vs L ⟨hIc, hE.tab.step fun b hb => ⟨.inl hb, rfl⟩⟩ (Br (E := E.shut sids) (E' := bare E.w (E.shut sids).I) rfl rfl _ _ _ r1) hLnd
 refine ⟨?_, hcall.mono fun e w' hpost => ?_⟩
 ·-- the frame's values stay
  have : ∀ (x : AV) (st : St), (matA true x st).2.fr = st.fr := by
   intro x st
   exact G5 true x st
  rw [this]
 ·obtain ⟨v, I', L', rfl, q1, q2, q3, q4, q5, q6, q7, q8⟩ := hpost
  obtain ⟨e1, e2, e3, e4⟩ := KX (w' := w') (I' := I') (S := sids) (outs := outs) hE r2 h3 hlive h4 (h5.imp id (·.2)) q1 q2 q3 q4 h6 q8
  have hsh := Gf (E := bare w' I') (E' := ⟨w', fun b => E.I b ∨ (E.w.heap.size ≤ b ∧ I' b), E.m, eatH (outH E.h io outs) eat, E.nx⟩) rfl
   (fun b hb => hb.elim (fun h => q2 b (.inl h)) (·.2)) r v L' (h5.elim (fun he => .inr fun b hb => ?_) fun he => .inl he.1) q5
  ·obtain ⟨m', M1, r3, _, _⟩ := FP (g := true) r v L' { st with h := eatH (outH st.h io outs) eat } _ e2 (by rw [hh]) hnx.symm hsh ⟨q6, fun o ho id hid => by
     have := (q7 o ho).1
     have hl : (E.h id).lv = true := e4 id hid
     show (E.m id).b ≠ o.l.b
     have := hmb id hl
     omega⟩ (fun _ o ho => (q7 o ho).2)
   exact ⟨v, _, rfl, rfl, rfl, rfl, e1.trans M1.le, M1.ok, e3.mat e2 M1 (fun o ho => (q7 o ho).1) rfl, r3⟩
  ·rcases q3 b hb with (h | ⟨i, hi, g1, g2⟩) | h
   ·exact .inl h
   ·rw [he] at hi; simp at hi
   ·exact .inr ⟨h, hb⟩
def InOk (P : Program) (st : St) (g : FuncId) (as0 : List AV) (x : AV) (st' : St) : Prop :=
 st'.fr = st.fr ∧ ∀ (E : Env) (vs : List Value), Ok P E → st.h = E.h → st.nx = E.nx → repL P E as0 vs →
  Calls P g vs.toArray E.w fun e w' => ∃ v E', e = .returned v ∧ E'.w = w' ∧ E'.h = st'.h ∧ E'.nx = st'.nx ∧ E.Le E' ∧ Ok P E' ∧ Goes P E E' ∧ rep P E' x v
theorem CallStep.inOk {P : Program} {st st' : St} {g : FuncId} {as0 : List AV} {x : AV} (h : CallStep P st g as0 x st') : InOk P st g as0 x st' := by
 refine ⟨?_, fun E vs hE hh hnx has => (Lx hE hh hnx has h).2⟩
 obtain ⟨pm, sargs, sids, io, eat, r, outs, h1, h2, h3, h4, h5, h6, h7⟩ := h.ex
 have e2 := congrArg Prod.snd h7
 simp only at e2
 rw [e2, G5]
def FrOk (P : Program) (E : Env) (st : St) (a : Act) : Prop := ∀ t, rep P E (st.fr t) (a.tmps.getD t undef)
def callable (P : Program) (g : FuncId) : Bool :=
 match P.funcs[g]? with
 | some fn => !(fn.name == "runtime.NumGoroutine") && fn.body.isSome
 | none => false
def isW (W : FuncId → Bool) (o : Op) : Bool :=
 match o with
 | .alloc _ | .box .. | .store .. | .makeSlice .. => true
 | .buildSlice _ len _ => len == 0
 | .call { callee := .builtin .append, .. } | .call { callee := .builtin .copy, .. } => true
 | .call { callee := .value (.func g), .. } => W g
 | _ => false
def isS (o : Op) : Bool :=
 match o with
 | .alloc _ | .box .. | .store .. | .makeSlice .. | .load .. | .slice .. | .indexAddr .. => true
 | .buildSlice _ len _ => len == 0
 | .convert src _ _ => src == 98
 | .call { callee := .builtin .append, .. } | .call { callee := .builtin .copy, .. } | .call { callee := .builtin .len, .. } | .call { callee := .value _, .. } => true
 | _ => false
def ValCall (P : Program) (W : FuncId → Bool) (st : St) (o : Op) (f : Operand) (args : Array Operand) (x : AV) (st' : St) : Prop :=
 ∃ g first cap, st.ev f = .fn (.func g) first cap ∧ callable P g = true ∧ InOk P st g (first ++ args.toList.map st.ev ++ cap) x st' ∧ (isW W o = false → st'.h = st.h ∧ st'.nx = st.nx) ∧
  (isW W o = false → AV.pureL (first ++ args.toList.map st.ev ++ cap) = true → ∀ h nx, InOk P ⟨st.fr, h, nx⟩ g (first ++ args.toList.map st.ev ++ cap) x ⟨st.fr, h, nx⟩)
def OpStep (P : Program) (W : FuncId → Bool) (st : St) (o : Op) (x : AV) (st' : St) : Prop :=
 match o with
 | .call { callee := .value f, args := args, argTypes := _ } => ValCall P W st o f args x st'
 | o => evalOp P st o = some (x, st')
theorem JV {P : Program} {E : Env} {st : St} {a : Act} {dst : Option Tmp} {x : AV} {u : Value} (hf : FrOk P E st a) (hx : rep P E x u) (hd : ∀ d, dst = some d → d < a.tmps.size) : FrOk P E (st.put dst x) (a.put dst u) := by
 intro t
 cases dst with
 | none => exact hf t
 | some d =>
  have hdl := hd d rfl
  simp only [St.put, Act.put, upd]
  by_cases h : t = d
  ·subst h
   rw [if_pos rfl]
   simp only [Array.getD_eq_getD_getElem?, Array.getElem?_setIfInBounds_self, hdl, if_true, Option.getD_some]
   exact hx
  ·rw [if_neg h]
   have := hf t
   simp only [Array.getD_eq_getD_getElem?] at this ⊢
   rw [Array.getElem?_setIfInBounds_ne (fun e => h e.symm)]
   exact this
theorem FrOk.mono {P : Program} {E E' : Env} {st : St} {a : Act} (hf : FrOk P E st a) (hle : E.Le E') : FrOk P E' st a := fun t => CR hle _ _ (hf t)
theorem OE {P : Program} {W : FuncId → Bool} {E : Env} {st st' : St} {a : Act} {o : Oper} {x : AV} (hE : Ok P E) (hh : st.h = E.h) (hnx : st.nx = E.nx) (hf : FrOk P E st a) (h : OpStep P W st o.op x st')
  (K : Act → World → Prop) (Q : Exit → Act → World → Prop) (hK : ∀ u E', st'.fr = st.fr → E'.h = st'.h → E'.nx = st'.nx → E.Le E' → Ok P E' → Goes P E E' → rep P E' x u → K (a.put o.dst u) E'.w) : o.wp P a E.w K Q := by
 unfold OpStep at h
 split at h
 ·rename_i f args ts hop
  obtain ⟨g, first, cap, h1, h2, h3, h4, _⟩ := h
  have hfv := HG hf f
  rw [h1] at hfv
  simp only [rep] at hfv
  obtain ⟨fs, cs, hfe, hfs, hcs⟩ := hfv
  have hargs := Ap (Ap hfs (Fc hf args.toList)) hcs
  obtain ⟨k1, k2⟩ : _ ∧ _ := ⟨h3.1, h3.2 E _ hE hh hnx hargs⟩
  obtain ⟨fn, hfn, hname, hbody⟩ : ∃ fn, P.funcs[g]? = some fn ∧ (fn.name == "runtime.NumGoroutine") = false ∧ fn.body.isSome = true := by
   unfold callable at h2
   split at h2
   ·rename_i fn hfn
    simp only [Bool.and_eq_true, Bool.not_eq_true'] at h2
    exact ⟨fn, hfn, h2.1, h2.2⟩
   ·cases h2
  have hrun : (execOp a.eval o).run P E.w = .ok (.enter g (fs ++ args.toList.map a.eval ++ cs).toArray) E.w := by
   obtain ⟨dst, op, type, pos, after, guard⟩ := o
   simp only at hop
   subst hop
   simp only [execOp, _root_.Go.resolve, hfe, Deferred.ofValue, pure_bind, invoke]
   have harr : fs.toArray ++ Array.map a.eval args ++ cs.toArray = (fs ++ args.toList.map a.eval ++ cs).toArray := by
    apply Array.ext'; simp
   rw [harr]
   have hb : ¬ fn.body = none := by
    intro hfb; rw [hfb] at hbody; simp at hbody
   have hn : ¬ fn.name = "runtime.NumGoroutine" := by simpa using hname
   simp [callFunc, go_sem, hfn, hn, hb]
  unfold Oper.wp
  rw [hrun]
  simp only [Oper.upon]
  refine k2.mono fun e w' hpost => ?_
  obtain ⟨v, E', rfl, rfl, g1, g2, g3, g4, g5, g6⟩ := hpost
  exact hK v E' k1 g1 g2 g3 g4 g5 g6
 ·obtain ⟨g1, E', n, u, k1, k2, k3, k4, k5, k6, k7, k8⟩ := JT (a := a) (o := o) hE hh hnx hf h
  unfold Oper.wp
  rw [k6]
  rcases k7 with rfl | ⟨rfl, rfl⟩
  ·exact hK u E' g1 k1 k2 k3 k4 k5 k8
  ·exact hK undef E' g1 k1 k2 k3 k4 k5 k8
def guardA (ops : Array Oper) (st : St) (o : Oper) : Option Bool :=
 match o.guard with
 | none => some true
 | some (j, want) => match (ops[j]?).bind (·.dst) with
  | some d => match st.fr d with
   | .bool b => some (b == want)
   | .tup _ => some false
   | _ => none
  | none => none
theorem EA {P : Program} {E : Env} {st : St} {a : Act} {ops : Array Oper} {o : Oper} {b : Bool} (hf : FrOk P E st a) (h : guardA ops st o = some b) : Region.wanted o (yielded ops a.tmps) = b := by
 unfold guardA at h
 unfold Region.wanted
 split at h
 ·rename_i hg; cases h; rw [hg]
 ·rename_i j want hg
  rw [hg]
  split at h
  ·rename_i d hd
   split at h
   ·rename_i b' hb
    cases h
    have := hf d
    rw [hb] at this
    have hv := Dp this
    have hget : a.tmps[d]? = some (.bool b') := by
     rw [Array.getD_eq_getD_getElem?] at hv
     cases he : a.tmps[d]? with
     | none => rw [he] at hv; simp [undef] at hv
     | some v => rw [he] at hv; simp only [Option.getD_some] at hv; rw [hv]
    simp only [yielded, hd, Option.bind_some, hget]
    cases b' <;> cases want <;> rfl
   ·rename_i vs hb
    cases h
    have := hf d
    rw [hb] at this
    simp only [rep] at this
    obtain ⟨us, hv, _⟩ := this
    have hget : a.tmps[d]? = some (.tuple us.toArray) ∨ a.tmps[d]? = none := by
     rw [Array.getD_eq_getD_getElem?] at hv
     cases he : a.tmps[d]? with
     | none => exact .inr rfl
     | some v => rw [he] at hv; simp only [Option.getD_some] at hv; rw [hv]; exact .inl rfl
    rcases hget with hget | hget <;> simp [yielded, hd, hget]
   ·cases h
  ·cases h
def OneStep (P : Program) (W : FuncId → Bool) (ops : Array Oper) (st : St) (o : Oper) (x : AV) (st' : St) : Prop :=
 (guardA ops st o = some true ∧ ∃ st1, OpStep P W st o.op x st1 ∧ st' = st1.put o.dst x) ∨ (guardA ops st o = some false ∧ x = .tup [] ∧ st' = st.put o.dst (.tup []))
structure Rel (P : Program) (E : Env) (st : St) (a : Act) : Prop where
 ok : Ok P E
 h : st.h = E.h
 nx : st.nx = E.nx
 fr : FrOk P E st a
theorem AY (st : St) (d : Option Tmp) (x : AV) : (st.put d x).h = st.h ∧ (st.put d x).nx = st.nx := by cases d <;> exact ⟨rfl, rfl⟩
theorem Dr (a : Act) (d : Option Tmp) (v : Value) : (a.put d v).tmps.size = a.tmps.size ∧ (a.put d v).defers = a.defers := by cases d <;> simp [Act.put]
theorem Dm {P : Program} {W : FuncId → Bool} {ops : Array Oper} {E : Env} {st st' : St} {a : Act} {i : Nat} {o : Oper} {x : AV} {Q : Exit → Act → World → Prop} (ho : ops[i]? = some o) (hR : Rel P E st a) (hd : ∀ d, o.dst = some d → d < a.tmps.size)
  (h : OneStep P W ops st o x st') (K : Act → World → Prop) (hK : ∀ a' E', Rel P E' st' a' → a'.tmps.size = a.tmps.size → a'.defers = a.defers → E.Le E' → Goes P E E' → K a' E'.w) :
  wpOp P ops Q i K a E.w := by
 unfold wpOp
 rw [ho]
 rcases h with ⟨hg, st1, h1, rfl⟩ | ⟨hg, rfl, rfl⟩
 ·simp only [EA hR.fr hg, if_true]
  refine .inl (OE hR.ok hR.h hR.nx hR.fr h1 K Q fun u E' g0 g1 g2 g3 g4 g5 g6 => hK _ E' ⟨g4, ?_, ?_, ?_⟩ (Dr ..).1 (Dr ..).2 g3 g5)
  ·rw [(AY ..).1]; exact g1.symm
  ·rw [(AY ..).2]; exact g2.symm
  ·refine JV (fun t => ?_) g6 hd
   rw [g0]; exact CR g3 _ _ (hR.fr t)
 ·simp only [EA hR.fr hg, Bool.false_eq_true, if_false]
  refine hK _ E ⟨hR.ok, ?_, ?_, JV hR.fr (by simp only [rep]; exact ⟨[], rfl, by simp [repL]⟩) hd⟩ (Dr ..).1 (Dr ..).2 (.refl E) (.refl P E)
  ·rw [(AY ..).1]; exact hR.h
  ·rw [(AY ..).2]; exact hR.nx
inductive Run (P : Program) (W : FuncId → Bool) (ops : Array Oper) : List Nat → St → St → Prop
 | nil (st : St) : Run P W ops [] st st
 | cons {i : Nat} {is : List Nat} {st st1 st2 : St} {o : Oper} {x : AV} : ops[i]? = some o → OneStep P W ops st o x st1 → Run P W ops is st1 st2 → Run P W ops (i :: is) st st2
theorem OF {P : Program} {W : FuncId → Bool} {ops : Array Oper} {Q : Exit → Act → World → Prop} {n : Nat} (hd : ∀ o ∈ ops, ∀ d, o.dst = some d → d < n) : ∀ (is : List Nat) (st st2 : St) (E : Env) (a : Act), Run P W ops is st st2 → Rel P E st a → a.tmps.size = n →
  (∀ a' E', Rel P E' st2 a' → a'.tmps.size = n → a'.defers = a.defers → E.Le E' → Goes P E E' → Q .normal a' E'.w) → wpOps P ops Q is a E.w := by
 intro is
 induction is with
 | nil =>
  intro st st2 E a h hR hn hQ
  cases h
  simp only [wpOps]
  exact hQ a E hR hn rfl (.refl E) (.refl P E)
 | cons i is ih =>
  intro st st2 E a h hR hn hQ
  cases h with
  | cons ho h1 h2 =>
   rw [wpOps_cons]
   refine Dm ho hR (fun d hdd => by rw [hn]; exact hd _ (Array.mem_of_getElem? ho) d hdd) h1 _ fun a' E' g1 g2 g3 g4 g5 => ?_
   exact ih _ _ E' a' h2 g1 (by rw [g2, hn]) fun a'' E'' k1 k2 k3 k4 k5 => hQ a'' E'' k1 k2 (k3.trans g3) (g4.trans k4) (g5.trans hR.ok k5)
def St.withFr (st : St) (fr : Nat → AV) : St := { st with fr := fr }
theorem Bc {α : Type} (o : Option α) (f g : α → Option (AV × St)) (F : AV × St → AV × St) (h : ∀ a, g a = (f a).map F) : o.bind g = (o.bind f).map F := by
 cases o with
 | none => rfl
 | some a => exact h a
theorem HM (P : Program) (st : St) (fr : Nat → AV) (e : Nat) (s : AV) (ys : List AV) : appendA P (st.withFr fr) e s ys = (appendA P st e s ys).map fun p => (p.1, p.2.withFr fr) := by
 cases s <;> try rfl
 case nil =>
  simp only [appendA]
  by_cases h1 : ys = []
  ·rw [if_pos h1, if_pos h1]; rfl
  ·rw [if_neg h1, if_neg h1]
   by_cases h2 : ys.length * byT P e ≤ reach ∧ ys.length ≤ reach
   ·rw [if_pos h2, if_pos h2]; rfl
   ·rw [if_neg h2, if_neg h2]; rfl
 case sl t xs sp ex =>
  simp only [appendA]
  by_cases h1 : ex = true ∧ sp = [] ∧ ys ≠ [] ∧ t = e
  ·rw [if_pos h1, if_pos h1]
   by_cases h2 : (xs.length + ys.length) * byT P e ≤ reach ∧ xs.length + ys.length ≤ reach
   ·rw [if_pos h2, if_pos h2]; rfl
   ·rw [if_neg h2, if_neg h2]; rfl
  ·rw [if_neg h1, if_neg h1]
   by_cases h2 : ys = [] ∧ t = e
   ·rw [if_pos h2, if_pos h2]; rfl
   ·rw [if_neg h2, if_neg h2]; rfl
 case ref id n off len =>
  simp only [appendA]
  by_cases h1 : (st.h id).lv = true ∧ (st.h id).xs.length = n ∧ (st.h id).t = e ∧ off + len ≤ n
  ·rw [if_pos h1, if_pos (show ((st.withFr fr).h id).lv = true ∧ ((st.withFr fr).h id).xs.length = n ∧ ((st.withFr fr).h id).t = e ∧ off + len ≤ n from h1)]
   by_cases h2 : off + len + ys.length ≤ n
   ·rw [if_pos h2, if_pos h2]; rfl
   ·rw [if_neg h2, if_neg h2]
    by_cases h3 : off = 0 ∧ len = n ∧ (st.h id).gr = true ∧ (len + ys.length) * byT P e ≤ reach ∧ len + ys.length ≤ reach
    ·rw [if_pos h3, if_pos (show off = 0 ∧ len = n ∧ ((st.withFr fr).h id).gr = true ∧ (len + ys.length) * byT P e ≤ reach ∧ len + ys.length ≤ reach from h3)]; rfl
    ·rw [if_neg h3, if_neg (show ¬ (off = 0 ∧ len = n ∧ ((st.withFr fr).h id).gr = true ∧ (len + ys.length) * byT P e ≤ reach ∧ len + ys.length ≤ reach) from h3)]; rfl
  ·rw [if_neg h1, if_neg (show ¬ (((st.withFr fr).h id).lv = true ∧ ((st.withFr fr).h id).xs.length = n ∧ ((st.withFr fr).h id).t = e ∧ off + len ≤ n) from h1)]; rfl
theorem Ly (P : Program) (st : St) (fr : Nat → AV) (u e : Nat) (s x : AV) : appendN P (st.withFr fr) u e s x = (appendN P st u e s x).map fun p => (p.1, p.2.withFr fr) := by
 unfold appendN
 split
 ·split
  ·cases zeroA P e with
   | none => rfl
   | some z => simp only [Option.bind_some]; split <;> rfl
  ·rfl
 ·rfl
theorem PX (P : Program) (st : St) (fr : Nat → AV) (e : Nat) (s : AV) (ys : List AV) : copyA P (st.withFr fr) e s ys = (copyA P st e s ys).map fun p => (p.1, p.2.withFr fr) := by
 unfold copyA
 cases s <;> try rfl
 rename_i id n off len
 simp only [HM]
 split
 ·cases appendA P st e (.ref id n off 0) ys with
  | none => rfl
  | some p =>
   simp only [Option.map_some, Option.bind_some]
   show (if (st.h id).lv = true ∧ (st.h id).xs.length = n then _ else _) = _
   split <;> rfl
 ·rfl
theorem JW (st : St) (fr : Nat → AV) (e : Nat) (x : AV) : winA (st.withFr fr) e x = winA st e x := by cases x <;> rfl
theorem PY (P : Program) (st : St) (fr : Nat → AV) (t : Nat) (x : AV) : loadA P (st.withFr fr) t x = loadA P st t x := by cases x <;> rfl
theorem OG (P : Program) (st : St) (fr : Nat → AV) (t : Nat) (x : AV) (lo hi mx : Option AV) : sliceA P (st.withFr fr) t x lo hi mx = sliceA P st t x lo hi mx := by cases mx <;> cases x <;> rfl
theorem IR (P : Program) (st : St) (fr : Nat → AV) (t : Nat) (x i : AV) : indexAddrA P (st.withFr fr) t x i = indexAddrA P st t x i := by cases x <;> cases i <;> rfl
theorem R6 (st : St) (fr : Nat → AV) (x : AV) : lenA (st.withFr fr) x = lenA st x := by cases x <;> rfl
theorem OH (P : Program) (st : St) (fr : Nat → AV) (t : Nat) (a v : AV) : storeA P (st.withFr fr) t a v = (storeA P st t a v).map (·.withFr fr) := by
 cases a <;> try rfl
 case ptr id n i j =>
  simp only [storeA]
  by_cases h1 : (st.h id).lv = true ∧ (st.h id).xs.length = n
  ·rw [if_pos h1, if_pos (show ((st.withFr fr).h id).lv = true ∧ ((st.withFr fr).h id).xs.length = n from h1)]
   show (match (st.h id).xs[i]? with | some x => _ | none => _) = Option.map _ (match (st.h id).xs[i]? with | some x => _ | none => _)
   cases (st.h id).xs[i]? with
   | none => rfl
   | some x => simp only; cases stA P t x j v <;> rfl
  ·rw [if_neg h1, if_neg (show ¬ (((st.withFr fr).h id).lv = true ∧ ((st.withFr fr).h id).xs.length = n) from h1)]; rfl
theorem BQ {α : Type} (o : Option α) (st : St) (fr : Nat → AV) (f : α → AV) : (o.map fun z => (f z, st.withFr fr)) = (o.map fun z => (f z, st)).map fun p => (p.1, p.2.withFr fr) := by
 cases o <;> rfl
set_option maxHeartbeats 1000000 in
theorem OI (P : Program) (st : St) (fr : Nat → AV) (o : Op) (hev : ∀ y ∈ o.operands, (st.withFr fr).ev y = st.ev y) :
  evalOp P (st.withFr fr) o = (evalOp P st o).map fun p => (p.1, p.2.withFr fr) := by
 cases o <;> simp only [Op.operands] at hev <;> try rfl
 case move x => simp only [evalOp, hev x zS, Option.map_some]
 case assign x => simp only [evalOp, hev x zS, Option.map_some]
 case pick c a b =>
  simp only [evalOp, hev c zS, hev a zS, hev b zS]
  split <;> rfl
 case alloc e =>
  simp only [evalOp]
  refine Bc _ _ _ _ fun z => ?_
  split <;> rfl
 case box e x =>
  simp only [evalOp, hev x zS]
  split <;> rfl
 case build t ps =>
  have hp : (ps.toList.map fun p => (p.1, (st.withFr fr).ev p.2)) = ps.toList.map fun p => (p.1, st.ev p.2) :=
   List.map_congr_left fun p hp => by rw [hev p.2 (by simp; exact ⟨p.1, by simpa using hp⟩)]
  simp only [evalOp, hp]
  split
  ·split
   ·exact BQ _ _ _ _
   ·rfl
  ·rfl
 case buildSlice t len ps =>
  have hp : (ps.toList.map fun p => (p.1, (st.withFr fr).ev p.2)) = ps.toList.map fun p => (p.1, st.ev p.2) :=
   List.map_congr_left fun p hp => by rw [hev p.2 (by simp; exact ⟨p.1, by simpa using hp⟩)]
  simp only [evalOp, hp]
  refine Bc _ _ _ _ fun e => ?_
  split
  ·split
   ·split <;> rfl
   ·refine Bc _ _ _ _ fun xs => ?_
    split <;> rfl
  ·rfl
 case nilCheck y =>
  simp only [evalOp, hev y zS]
  cases st.ev y <;> rfl
 case load t a =>
  simp only [evalOp, hev a zS, PY]
  split
  ·exact BQ _ _ _ _
  ·rfl
 case store t a v =>
  simp only [evalOp, hev a zS, hev v zS, OH]
  split
  ·cases storeA P st t (st.ev a) (st.ev v) <;> rfl
  ·rfl
 case binOp op t x y u =>
  simp only [evalOp, hev x zS, hev y zS]
  split
  ·exact BQ _ _ _ _
  ·rfl
 case unOp op t x => simp only [evalOp, hev x zS]; exact BQ _ _ _ _
 case convert s d x =>
  have hc : ∀ v, conA P (st.withFr fr) s d v = conA P st s d v := fun v => by unfold conA; simp only [JW]
  simp only [evalOp, hev x zS, hc]
  split
  ·exact BQ _ _ _ _
  ·rfl
 case makeFunc f a b =>
  have h1 : a.toList.map (st.withFr fr).ev = a.toList.map st.ev := List.map_congr_left fun y hy => hev y (by simp; exact .inl (by simpa using hy))
  have h2 : b.toList.map (st.withFr fr).ev = b.toList.map st.ev := List.map_congr_left fun y hy => hev y (by simp; exact .inr (by simpa using hy))
  simp only [evalOp, h1, h2, Option.map_some]
 case makeSlice t l c =>
  simp only [evalOp, hev l zS, hev c zS]
  refine Bc _ _ _ _ fun e => ?_
  split
  ·split
   ·refine Bc _ _ _ _ fun z => ?_
    split <;> rfl
   ·rfl
  ·rfl
 case slice t x lo hi mx =>
  have h1 : lo.map (st.withFr fr).ev = lo.map st.ev := by cases lo with | none => rfl | some y => simp [hev y zS]
  have h2 : hi.map (st.withFr fr).ev = hi.map st.ev := by cases hi with | none => rfl | some y => simp [hev y zS]
  have h3 : mx.map (st.withFr fr).ev = mx.map st.ev := by cases mx with | none => rfl | some y => simp [hev y zS]
  simp only [evalOp, hev x zS, h1, h2, h3, OG]; exact BQ _ _ _ _
 case fieldAddr s x f =>
  simp only [evalOp, hev x zS]
  split
  ·split <;> rfl
  ·split <;> rfl
  ·rfl
 case field t x f =>
  simp only [evalOp, hev x zS]
  split
  ·split
   ·exact BQ _ _ _ _
   ·rfl
  ·rfl
 case indexAddr t x i => simp only [evalOp, hev x zS, hev i zS, IR]; exact BQ _ _ _ _
 case index t x i =>
  simp only [evalOp, hev x zS, hev i zS]
  split
  ·split
   ·exact BQ _ _ _ _
   ·rfl
  ·rfl
 case extract t i =>
  simp only [evalOp, hev t zS]
  split
  ·exact BQ _ _ _ _
  ·rfl
 case call c =>
  obtain ⟨callee, args, ts⟩ := c
  cases callee with
  | value f => rfl
  | invoke r m => rfl
  | builtin b =>
   have hm : ∀ y ∈ args.toList, (st.withFr fr).ev y = st.ev y := fun y hy => hev y (by simp [Call.operands]; simpa using hy)
   simp only [evalOp]
   split
   ·rename_i x t ha ht
    rw [hm x (by rw [ha]; simp), R6]
    split
    ·exact BQ _ _ _ _
    ·rfl
   ·rename_i s x t u ha ht
    rw [hm s (by rw [ha]; simp), hm x (by rw [ha]; simp)]
    refine Bc _ _ _ _ fun e => ?_
    rw [JW]
    cases (if elT P u = some e ∧ zokT P e = true then winA st e (st.ev x) else none) with
    | none => exact Ly P st fr u e _ _
    | some ys => exact HM P st fr e _ ys
   ·rename_i x t ha ht
    rw [hm x (by rw [ha]; simp)]
    split <;> rfl
   ·rename_i s x t u ha ht
    rw [hm s (by rw [ha]; simp), hm x (by rw [ha]; simp)]
    refine Bc _ _ _ _ fun e => ?_
    split
    ·rw [JW]
     refine Bc _ _ _ _ fun ys => ?_
     exact PX P st fr e _ ys
    ·rfl
   ·rename_i x y ha
    rw [hm x (by rw [ha]; simp), hm y (by rw [ha]; simp)]
    split
    ·split <;> rfl
    ·rfl
   ·rename_i x y ha
    rw [hm x (by rw [ha]; simp), hm y (by rw [ha]; simp)]
    split
    ·split <;> rfl
    ·rfl
   ·rfl
set_option maxHeartbeats 1000000 in
theorem EB (P : Program) (st st2 st' : St) (x : AV) (o : Op) (hs : isS o = false) (hev : ∀ y ∈ o.operands, st2.ev y = st.ev y) (h : evalOp P st o = some (x, st')) : st' = st ∧ evalOp P st2 o = some (x, st2) := by
 have mm : ∀ (r : Option AV), (r.map fun z => (z, st)) = some (x, st') → st' = st ∧ (r.map fun z => (z, st2)) = some (x, st2) := by
  intro r hr; cases r with
  | none => cases hr
  | some z => cases hr; exact ⟨rfl, rfl⟩
 cases o <;> simp only [Op.operands] at hev <;> simp only [isS] at hs <;> try (simp at hs; done)
 all_goals try (simp [evalOp] at h; done)
 case move y => simp only [evalOp, Option.some.injEq, Prod.mk.injEq] at h ⊢; exact ⟨h.2.symm, by rw [hev y zS]; exact h.1, trivial⟩
 case assign y => simp only [evalOp, Option.some.injEq, Prod.mk.injEq] at h ⊢; exact ⟨h.2.symm, by rw [hev y zS]; exact h.1, trivial⟩
 case pick c a b =>
  simp only [evalOp] at h ⊢
  rw [hev c zS, hev a zS, hev b zS]
  split at h
  ·cases h; exact ⟨rfl, rfl⟩
  ·cases h
 case nilCheck y =>
  simp only [evalOp] at h ⊢
  rw [hev y zS]
  split at h
  ·cases h; exact ⟨rfl, rfl⟩
  ·cases h; exact ⟨rfl, rfl⟩
  ·cases h
 case build t ps =>
  have hp : (ps.toList.map fun p => (p.1, st2.ev p.2)) = ps.toList.map fun p => (p.1, st.ev p.2) :=
   List.map_congr_left fun p hp => by rw [hev p.2 (by simp; exact ⟨p.1, by simpa using hp⟩)]
  simp only [evalOp, hp] at h ⊢
  by_cases hin : infosT P t = true
  ·rw [if_pos hin] at h ⊢
   split at h
   ·cases hf : fillA P t _ (ps.toList.map fun p => (p.1, st.ev p.2)) with
    | none => rw [hf] at h; cases h
    | some cs => rw [hf] at h; cases h; exact ⟨rfl, rfl⟩
   ·cases h
  ·rw [if_neg hin] at h; cases h
 case buildSlice t len ps =>
  have hp : (ps.toList.map fun p => (p.1, st2.ev p.2)) = ps.toList.map fun p => (p.1, st.ev p.2) :=
   List.map_congr_left fun p hp => by rw [hev p.2 (by simp; exact ⟨p.1, by simpa using hp⟩)]
  have hl : ¬ len = 0 := by simpa using hs
  simp only [evalOp, hp, hl, false_and, if_false] at h ⊢
  obtain ⟨e, he, h⟩ := Option.bind_eq_some_iff.1 h
  split at h
  ·rename_i hc
   obtain ⟨xs, hxs, h⟩ := Option.bind_eq_some_iff.1 h
   split at h
   ·rename_i hc2
    cases h
    refine ⟨rfl, ?_⟩
    rw [he]; simp only [Option.bind_some]
    rw [if_pos hc, hxs]; simp only [Option.bind_some]
    rw [if_pos hc2]
   ·cases h
  ·cases h
 case binOp op t y z u =>
  simp only [evalOp] at h ⊢
  rw [hev y zS, hev z zS]
  split at h
  ·rename_i hc; rw [if_pos hc]; exact mm _ h
  ·cases h
 case unOp op t y => simp only [evalOp] at h ⊢; rw [hev y zS]; exact mm _ h
 case convert s d y =>
  have hn : ¬ s = 98 := by simpa using hs
  simp only [evalOp, conA, if_neg hn] at h ⊢
  rw [hev y zS]
  split at h
  ·rename_i hc; rw [if_pos hc]; exact mm _ h
  ·cases h
 case makeFunc f a b =>
  have h1 : a.toList.map st2.ev = a.toList.map st.ev := List.map_congr_left fun y hy => hev y (by simp; exact .inl (by simpa using hy))
  have h2 : b.toList.map st2.ev = b.toList.map st.ev := List.map_congr_left fun y hy => hev y (by simp; exact .inr (by simpa using hy))
  simp only [evalOp, h1, h2, Option.some.injEq, Prod.mk.injEq] at h ⊢
  exact ⟨h.2.symm, h.1, trivial⟩
 case fieldAddr s y f =>
  simp only [evalOp] at h ⊢
  rw [hev y zS]
  split at h
  ·split at h
   ·rename_i hc; cases h; exact ⟨rfl, by simp [hc]⟩
   ·cases h
  ·split at h
   ·rename_i hc; cases h; exact ⟨rfl, by simp [hc]⟩
   ·cases h
  ·cases h
 case field t y f =>
  simp only [evalOp] at h ⊢
  rw [hev y zS]
  split at h
  ·split at h
   ·rename_i hc; simp only [hc, if_true]; exact mm _ h
   ·cases h
  ·cases h
 case index t y i =>
  simp only [evalOp] at h ⊢
  rw [hev y zS, hev i zS]
  split at h
  ·split at h
   ·rename_i hc; rw [if_pos hc]
    rename_i s k n _ _
    cases hb : s[n.toNat]? with
    | none => rw [hb] at h; cases h
    | some b => rw [hb] at h; cases h; exact ⟨rfl, rfl⟩
   ·cases h
  ·cases h
 case extract t i =>
  simp only [evalOp] at h ⊢
  rw [hev t zS]
  split at h
  ·exact mm _ h
  ·cases h
 case call c =>
  obtain ⟨callee, args, ts⟩ := c
  cases callee with
  | value f => simp at hs
  | invoke r m => simp [evalOp] at h
  | builtin b =>
   have hm : ∀ y ∈ args.toList, st2.ev y = st.ev y := fun y hy => hev y (by simp [Call.operands]; simpa using hy)
   simp only [evalOp] at h ⊢
   split at h
   ·simp at hs
   ·simp at hs
   ·rename_i y t ha ht
    rw [hm y (by rw [ha]; simp)]
    split at h
    ·cases h; exact ⟨rfl, rfl⟩
    ·cases h
   ·simp at hs
   ·rename_i p q ha
    rw [hm p (by rw [ha]; simp), hm q (by rw [ha]; simp)]
    split at h
    ·split at h
     ·rename_i hc; cases h; exact ⟨rfl, by rw [if_pos hc]⟩
     ·cases h
    ·cases h
   ·rename_i p q ha
    rw [hm p (by rw [ha]; simp), hm q (by rw [ha]; simp)]
    split at h
    ·split at h
     ·rename_i hc; cases h; exact ⟨rfl, by rw [if_pos hc]⟩
     ·cases h
    ·cases h
   ·cases h
theorem FH {P : Program} {st st' : St} {e : Nat} {s x : AV} {ys : List AV} (h : appendA P st e s ys = some (x, st')) : st'.fr = st.fr := by
 unfold appendA at h
 split at h
 ·split at h
  ·cases h; rfl
  ·split at h
   ·cases h; rfl
   ·cases h
 ·split at h
  ·split at h
   ·cases h; rfl
   ·cases h
  ·split at h
   ·cases h; rfl
   ·cases h
 ·split at h
  ·split at h
   ·cases h; rfl
   ·split at h
    ·cases h; rfl
    ·cases h
  ·cases h
 ·cases h
theorem IS {P : Program} {st st' : St} {u e : Nat} {s x z : AV} (h : appendN P st u e s x = some (z, st')) : st'.fr = st.fr := by
 unfold appendN at h
 split at h
 ·split at h
  ·obtain ⟨z0, _, h⟩ := Option.bind_eq_some_iff.1 h
   split at h
   ·cases h; rfl
   ·cases h
  ·cases h
 ·cases h
theorem KY {P : Program} {st st' : St} {e : Nat} {s x : AV} {ys : List AV} (h : copyA P st e s ys = some (x, st')) : st'.fr = st.fr := by
 unfold copyA at h
 split at h
 ·split at h
  ·obtain ⟨⟨z, s1⟩, ha, h⟩ := Option.bind_eq_some_iff.1 h
   split at h
   ·cases h; exact FH (x := z) (st' := s1) ha
   ·cases h
  ·cases h
 ·cases h
set_option maxHeartbeats 1000000 in
theorem JX (P : Program) (W : FuncId → Bool) (st st' : St) (x : AV) (o : Op) (h : evalOp P st o = some (x, st')) : st'.fr = st.fr ∧ (isW W o = false → st'.h = st.h ∧ st'.nx = st.nx) := by
 by_cases hs : isS o = false
 ·obtain ⟨rfl, _⟩ := EB P st st st' x o hs (fun _ _ => rfl) h
  exact ⟨rfl, fun _ => ⟨rfl, rfl⟩⟩
 ·have mm : ∀ (r : Option AV), (r.map fun z => (z, st)) = some (x, st') → st' = st := by
   intro r hr; cases r with
   | none => cases hr
   | some z => cases hr; rfl
  cases o <;> simp only [isS] at hs <;> try (simp at hs; done)
  case alloc e =>
   simp only [evalOp] at h
   obtain ⟨z, _, h⟩ := Option.bind_eq_some_iff.1 h
   split at h
   ·cases h; exact ⟨rfl, fun h => by simp [isW] at h⟩
   ·cases h
  case box e y =>
   simp only [evalOp] at h
   split at h
   ·cases h; exact ⟨rfl, fun h => by simp [isW] at h⟩
   ·cases h
  case buildSlice t len ps =>
   simp only [evalOp] at h
   obtain ⟨e, _, h⟩ := Option.bind_eq_some_iff.1 h
   split at h
   ·split at h
    ·rename_i h0
     split at h
     ·cases h; exact ⟨rfl, fun h => by simp [isW, h0.1] at h⟩
     ·cases h
    ·obtain ⟨xs, _, h⟩ := Option.bind_eq_some_iff.1 h
     split at h
     ·cases h; exact ⟨rfl, fun _ => ⟨rfl, rfl⟩⟩
     ·cases h
   ·cases h
  case load t a =>
   simp only [evalOp] at h
   split at h
   ·rw [mm _ h]; exact ⟨rfl, fun _ => ⟨rfl, rfl⟩⟩
   ·cases h
  case convert s d y =>
   simp only [evalOp] at h
   split at h
   ·rw [mm _ h]; exact ⟨rfl, fun _ => ⟨rfl, rfl⟩⟩
   ·cases h
  case store t a v =>
   simp only [evalOp] at h
   split at h
   ·simp only [Option.map_eq_some_iff, Prod.mk.injEq] at h
    obtain ⟨s, hs', _, rfl⟩ := h
    refine ⟨?_, fun h => by simp [isW] at h⟩
    unfold storeA at hs'
    split at hs'
    ·split at hs'
     ·split at hs'
      ·simp only [Option.map_eq_some_iff] at hs'; obtain ⟨y, _, rfl⟩ := hs'; rfl
      ·cases hs'
     ·cases hs'
    ·cases hs'
   ·cases h
  case makeSlice t l c =>
   simp only [evalOp] at h
   obtain ⟨e, _, h⟩ := Option.bind_eq_some_iff.1 h
   split at h
   ·split at h
    ·obtain ⟨z, _, h⟩ := Option.bind_eq_some_iff.1 h
     split at h
     ·cases h; exact ⟨rfl, fun h => by simp [isW] at h⟩
     ·cases h
    ·cases h
   ·cases h
  case slice t y lo hi mx => simp only [evalOp] at h; rw [mm _ h]; exact ⟨rfl, fun _ => ⟨rfl, rfl⟩⟩
  case indexAddr t y i => simp only [evalOp] at h; rw [mm _ h]; exact ⟨rfl, fun _ => ⟨rfl, rfl⟩⟩
  case call c =>
   obtain ⟨callee, args, ts⟩ := c
   cases callee with
   | value f => simp [evalOp] at h
   | invoke r m => simp at hs
   | builtin b =>
    simp only [evalOp] at h
    split at h
    ·split at h
     ·simp only [Option.map_eq_some_iff, Prod.mk.injEq] at h
      obtain ⟨_, _, _, rfl⟩ := h
      exact ⟨rfl, fun _ => ⟨rfl, rfl⟩⟩
     ·cases h
    ·obtain ⟨e, _, h⟩ := Option.bind_eq_some_iff.1 h
     split at h
     ·exact ⟨FH h, fun h => by simp [isW] at h⟩
     ·exact ⟨IS h, fun h => by simp [isW] at h⟩
    ·split at h
     ·cases h; exact ⟨rfl, fun _ => ⟨rfl, rfl⟩⟩
     ·cases h
    ·obtain ⟨e, _, h⟩ := Option.bind_eq_some_iff.1 h
     split at h
     ·obtain ⟨ys, _, h⟩ := Option.bind_eq_some_iff.1 h
      exact ⟨KY h, fun h => by simp [isW] at h⟩
     ·cases h
    ·split at h
     ·split at h
      ·cases h; exact ⟨rfl, fun _ => ⟨rfl, rfl⟩⟩
      ·cases h
     ·cases h
    ·split at h
     ·split at h
      ·cases h; exact ⟨rfl, fun _ => ⟨rfl, rfl⟩⟩
      ·cases h
     ·cases h
    ·cases h
theorem Df {P : Program} {st st' : St} {g : FuncId} {as0 : List AV} {x : AV} (fr : Nat → AV) (h : InOk P st g as0 x st') : InOk P (st.withFr fr) g as0 x (st'.withFr fr) := ⟨rfl, h.2⟩
theorem HO {P : Program} {st st' : St} {g : FuncId} {as0 : List AV} {x : AV} (h : InOk P st g as0 x st') : st'.fr = st.fr := h.1
theorem Fk {P : Program} {W : FuncId → Bool} {st st' : St} {o : Op} {x : AV} (h : OpStep P W st o x st') : st'.fr = st.fr ∧ (isW W o = false → st'.h = st.h ∧ st'.nx = st.nx) := by
 unfold OpStep at h
 split at h
 ·obtain ⟨g, first, cap, h1, h2, h3, h4, _⟩ := h
  exact ⟨HO h3, h4⟩
 ·exact JX P W st st' x _ h
theorem GG {st st2 : St} (h : st2.h = st.h) (hn : st2.nx = st.nx) : st2 = st.withFr st2.fr := by
 cases st; cases st2; simp only at h hn; subst h; subst hn; rfl
theorem C9 {P : Program} {W : FuncId → Bool} {st st' st2 : St} {o : Op} {x : AV} (h : OpStep P W st o x st') (hev : ∀ y ∈ o.operands, st2.ev y = st.ev y) (hS : isS o = true → st2.h = st.h ∧ st2.nx = st.nx) :
  ∃ st2', OpStep P W st2 o x st2' ∧ st2'.fr = st2.fr ∧ (isS o = true → st2'.h = st'.h ∧ st2'.nx = st'.nx) ∧ (isS o = false → st2'.h = st2.h ∧ st2'.nx = st2.nx) := by
 unfold OpStep at h ⊢
 split at h
 ·rename_i f args ts
  obtain ⟨e1, e2⟩ := hS rfl
  obtain ⟨g, first, cap, h1, h2, h3, h4, h5⟩ := h
  have hst := GG e1 e2
  refine ⟨st'.withFr st2.fr, ⟨g, first, cap, ?_, h2, ?_, fun hw => ?_, fun hw hp h nx => ?_⟩, rfl, fun _ => ⟨rfl, rfl⟩, fun h => by simp [isS] at h⟩
  ·rw [hev f (by simp [Op.operands, Call.operands])]; exact h1
  ·have hm : args.toList.map st2.ev = args.toList.map st.ev := List.map_congr_left fun y hy => hev y (by simp [Op.operands, Call.operands]; exact .inr (by simpa using hy))
   rw [hm]
   have := Df st2.fr h3
   rw [← hst] at this
   exact this
  ·obtain ⟨k1, k2⟩ := h4 hw
   exact ⟨k1.trans e1.symm, k2.trans e2.symm⟩
  ·have hm : args.toList.map st2.ev = args.toList.map st.ev := List.map_congr_left fun y hy => hev y (by simp [Op.operands, Call.operands]; exact .inr (by simpa using hy))
   rw [hm] at hp ⊢
   exact Df st2.fr (h5 hw hp h nx)
 ·by_cases hs : isS o = true
  ·obtain ⟨e1, e2⟩ := hS hs
   have hst := GG e1 e2
   have := OI P st st2.fr o (by rw [← hst]; exact hev)
   rw [h, ← hst] at this
   exact ⟨_, this, rfl, fun _ => ⟨rfl, rfl⟩, fun h => by rw [hs] at h; cases h⟩
  ·have hs' : isS o = false := by simpa using hs
   obtain ⟨_, h2⟩ := EB P st st2 st' x o hs' hev h
   exact ⟨st2, h2, rfl, fun h => absurd h hs, fun _ => ⟨rfl, rfl⟩⟩
def edgesB (ops : Array Oper) (j : Nat) : List Nat := (((ops[j]?).map (·.after)).getD #[]).toList.filterMap fun e => if Region.binds .any e then some e.on else none
def befsGo (ops : Array Oper) : List Nat → List (List Bool) → List (List Bool)
 | [], acc => acc
 | j :: js, acc => befsGo ops js (acc ++ [(List.range j).map fun i => (edgesB ops j).any fun k => k == i || (acc.getD k []).getD i false])
def befs (ops : Array Oper) : List (List Bool) := befsGo ops (List.range ops.size) []
def bget (B : List (List Bool)) (j i : Nat) : Bool := (B.getD j []).getD i false
def clash (W : FuncId → Bool) (ops : Array Oper) (a b : Oper) : Bool :=
 (match a.dst with | some d => (b.looksAt ops).contains d || b.dst == some d | none => false) || (match b.dst with | some d => (a.looksAt ops).contains d | none => false) ||
 (isW W a.op && isS b.op) || (isS a.op && isW W b.op)
def drawOk (W : FuncId → Bool) (ops : Array Oper) : Bool :=
 let B := befs ops
 let r := List.range ops.size
 (r.all fun j => (edgesB ops j).all fun k => decide (k < j)) &&
 (r.all fun j => r.all fun i => !(bget B j i) || (edgesB ops j).any fun k => k == i || bget B k i) &&
 (r.all fun j => (List.range j).all fun i => match ops[i]?, ops[j]? with | some a, some b => !(clash W ops a b) || bget B j i | _, _ => true)
theorem G1 {W : FuncId → Bool} {ops : Array Oper} {a b : Oper} (h : clash W ops a b = false) :
  (∀ d, a.dst = some d → d ∉ b.looksAt ops ∧ b.dst ≠ some d) ∧ (∀ d, b.dst = some d → d ∉ a.looksAt ops) ∧ (isW W a.op = true → isS b.op = false) ∧ (isW W b.op = true → isS a.op = false) := by
 simp only [clash, Bool.or_eq_false_iff] at h
 obtain ⟨⟨⟨h1, h2⟩, h3⟩, h4⟩ := h
 refine ⟨fun d hd => ?_, fun d hd => ?_, fun hw => ?_, fun hw => ?_⟩
 ·rw [hd] at h1; simp only [Bool.or_eq_false_iff] at h1
  exact ⟨fun hm => by simp [hm] at h1, fun he => by rw [he] at h1; simp at h1⟩
 ·rw [hd] at h2
  exact fun hm => by simp [hm] at h2
 ·rw [hw] at h3; simpa using h3
 ·rw [hw] at h4; simpa using h4
theorem Eu {W : FuncId → Bool} {o : Op} (h : isW W o = true) : isS o = true := by
 unfold isW at h
 split at h <;> first | rfl | (simp only [isS]; exact h) | (cases h)
section
variable {P : Program} {W : FuncId → Bool} {ops : Array Oper} {s : Nat → St} {x : Nat → AV}
def RunF (P : Program) (W : FuncId → Bool) (ops : Array Oper) (s : Nat → St) (x : Nat → AV) : Prop := ∀ i o, ops[i]? = some o → OneStep P W ops (s i) o (x i) (s (i + 1))
theorem Run.toF : ∀ {k m : Nat} {st st2 : St}, Run P W ops (List.range' k m) st st2 → ∃ (s : Nat → St) (x : Nat → AV), s k = st ∧ s (k + m) = st2 ∧ ∀ i o, k ≤ i → i < k + m → ops[i]? = some o → OneStep P W ops (s i) o (x i) (s (i + 1))
 | k, 0, st, st2, h => by
  cases h
  exact ⟨fun _ => st, fun _ => .undef, rfl, rfl, fun i o h1 h2 => by omega⟩
 | k, m + 1, st, st2, h => by
  rw [List.range'_succ] at h
  cases h with
  | @cons _ _ _ st1 _ o y ho h1 h2 =>
   obtain ⟨s, x, e1, e2, h3⟩ := Run.toF h2
   refine ⟨fun i => if i = k then st else s i, fun i => if i = k then y else x i, zS, ?_, fun i o' hi1 hi2 ho' => ?_⟩
   ·simp only; rw [if_neg zO, show k + (m + 1) = k + 1 + m by omega]; exact e2
   ·by_cases hi : i = k
    ·subst hi
     rw [ho] at ho'; cases ho'
     simp only [if_true]
     rw [if_neg zO, e1]; exact h1
    ·simp only [hi, if_false]
     rw [if_neg zO]
     exact h3 i o' zO zO ho'
theorem Bh {o : Oper} {st st' : St} {y : AV} (h : OneStep P W ops st o y st') : st'.fr = (st.put o.dst y).fr ∧ (isW W o.op = false → st'.h = st.h ∧ st'.nx = st.nx) := by
 rcases h with ⟨_, st1, h1, rfl⟩ | ⟨_, rfl, rfl⟩
 ·obtain ⟨k1, k2⟩ := Fk h1
  refine ⟨?_, fun hw => ?_⟩
  ·cases o.dst <;> simp [St.put, k1]
  ·rw [(AY ..).1, (AY ..).2]; exact k2 hw
 ·exact ⟨rfl, fun _ => by rw [(AY ..).1, (AY ..).2]; exact ⟨rfl, rfl⟩⟩
def writes (ops : Array Oper) (i t : Nat) : Prop := (ops[i]?).bind (·.dst) = some t
def Holds (ops : Array Oper) (s : Nat → St) (x : Nat → AV) (D : Nat → Prop) (t : Nat) (v : AV) : Prop :=
 (∃ i, D i ∧ writes ops i t ∧ (∀ j, D j → writes ops j t → j ≤ i) ∧ v = x i) ∨ ((∀ i, D i → ¬ writes ops i t) ∧ v = (s 0).fr t)
theorem Holds.unique {D D' : Nat → Prop} {t : Nat} {v v' : AV} (h : Holds ops s x D t v) (h' : Holds ops s x D' t v') (hD : ∀ i, writes ops i t → (D i ↔ D' i)) : v = v' := by
 rcases h with ⟨i, a1, a2, a3, rfl⟩ | ⟨a1, rfl⟩ <;> rcases h' with ⟨j, b1, b2, b3, rfl⟩ | ⟨b1, rfl⟩
 ·have h1 := a3 j ((hD j b2).2 b1) b2
  have h2 := b3 i ((hD i a2).1 a1) a2
  have : i = j := by omega
  rw [this]
 ·exact absurd a2 (b1 i ((hD i a2).1 a1))
 ·exact absurd b2 (a1 j ((hD j b2).2 b1))
 ·rfl
theorem EC (hrun : RunF P W ops s x) : ∀ m, m ≤ ops.size → ∀ t, Holds ops s x (· < m) t ((s m).fr t)
 | 0, _, t => .inr ⟨fun i h => absurd h zO, rfl⟩
 | m + 1, hm, t => by
  have ho : ops[m]? = some ops[m] := Array.getElem?_eq_getElem zO
  have h1 := Bh (hrun m _ ho)
  rw [h1.1]
  have ih := EC hrun m zO t
  by_cases hw : writes ops m t
  ·refine .inl ⟨m, zO, hw, fun j hj _ => by omega, ?_⟩
   have hd : ops[m].dst = some t := by have := hw; simp only [writes, ho, Option.bind_some] at this; exact this
   rw [hd]; simp [St.put, upd]
  ·have hv : ((s m).put ops[m].dst (x m)).fr t = (s m).fr t := by
    cases hd : ops[m].dst with
    | none => rfl
    | some d =>
     have hne : t ≠ d := fun e => hw (by simp [writes, ho, hd, e])
     simp [St.put, upd, hne]
   rw [hv]
   rcases ih with ⟨i, a1, a2, a3, a4⟩ | ⟨a1, a2⟩
   ·refine .inl ⟨i, zO, a2, fun j hj hj2 => ?_, a4⟩
    rcases Nat.lt_or_ge j m with h | h
    ·exact a3 j h hj2
    ·exact absurd ((by omega : j = m) ▸ hj2) hw
   ·refine .inr ⟨fun j hj hj2 => ?_, a2⟩
    rcases Nat.lt_or_ge j m with h | h
    ·exact a1 j h hj2
    ·exact absurd ((by omega : j = m) ▸ hj2) hw
theorem CU (hrun : RunF P W ops s x) {k : Nat} : ∀ d, k + d ≤ ops.size → (∀ i o, k ≤ i → i < k + d → ops[i]? = some o → isW W o.op = false) → (s (k + d)).h = (s k).h ∧ (s (k + d)).nx = (s k).nx
 | 0, _, _ => ⟨rfl, rfl⟩
 | d + 1, hd, hq => by
  obtain ⟨a1, a2⟩ := CU hrun d zO (fun i o h1 h2 => hq i o h1 zO)
  have ho : ops[k + d]? = some ops[k + d] := Array.getElem?_eq_getElem zO
  obtain ⟨b1, b2⟩ := (Bh (hrun (k + d) _ ho)).2 (hq (k + d) _ zO zO ho)
  exact ⟨b1.trans a1, b2.trans a2⟩
structure Drawn (ops : Array Oper) (W : FuncId → Bool) (s : Nat → St) (x : Nat → AV) (D : Nat → Prop) (st : St) : Prop where
 shut : ∀ j, D j → ∀ k ∈ edgesB ops j, D k
 lt : ∀ j, D j → j < ops.size
 fr : ∀ t, Holds ops s x D t (st.fr t)
 mem : ∃ k, k ≤ ops.size ∧ st.h = (s k).h ∧ st.nx = (s k).nx ∧ ∀ i o, ops[i]? = some o → isW W o.op = true → (D i ↔ i < k)
theorem DA (h : drawOk W ops = true) : (∀ j, j < ops.size → ∀ k ∈ edgesB ops j, k < j) ∧
  (∀ j i, j < ops.size → i < ops.size → bget (befs ops) j i = true → ∃ k ∈ edgesB ops j, k = i ∨ bget (befs ops) k i = true) ∧
  (∀ i j a b, i < j → ops[i]? = some a → ops[j]? = some b → clash W ops a b = true → bget (befs ops) j i = true) := by
 simp only [drawOk, Bool.and_eq_true, List.all_eq_true, List.mem_range, decide_eq_true_eq] at h
 obtain ⟨⟨h1, h2⟩, h3⟩ := h
 have lt : ∀ {i : Nat} {a : Oper}, ops[i]? = some a → i < ops.size := fun {i a} ha => by
  rcases Nat.lt_or_ge i ops.size with h | h
  ·exact h
  ·rw [Array.getElem?_eq_none h] at ha; cases ha
 refine ⟨h1, fun j i hj hi hb => ?_, fun i j a b hij ha hb hc => ?_⟩
 ·have := h2 j hj i hi
  rw [hb] at this
  simp only [Bool.not_true, Bool.false_or, List.any_eq_true, Bool.or_eq_true, beq_iff_eq] at this
  exact this
 ·have := h3 j (lt hb) i hij
  rw [ha, hb] at this
  simpa [hc] using this
theorem Drawn.before (hok : drawOk W ops = true) {D : Nat → Prop} {st : St} (hD : Drawn ops W s x D st) : ∀ j, D j → ∀ i, i < ops.size → bget (befs ops) j i = true → D i := by
 obtain ⟨h1, h2, _⟩ := DA hok
 intro j
 induction j using Nat.strongRecOn with
 | _ j ih =>
  intro hj i hi hb
  obtain ⟨k, hk, hc⟩ := h2 j i (hD.lt j hj) hi hb
  have hDk := hD.shut j hj k hk
  rcases hc with rfl | hc
  ·exact hDk
  ·exact ih k (h1 j (hD.lt j hj) k hk) hDk i hi hc
end
section
variable {P : Program} {W : FuncId → Bool} {ops : Array Oper} {s : Nat → St} {x : Nat → AV} {Q : Exit → Act → World → Prop} {n : Nat}
def Lis (listed : Array Bool) (i : Nat) : Prop := listed.getD i false = true
theorem Il {j k : Nat} : k ∈ edgesB ops j ↔ ∃ o, ops[j]? = some o ∧ ∃ e ∈ o.after, Region.binds .any e = true ∧ e.on = k := by
 unfold edgesB
 cases ho : ops[j]? with
 | none => simp
 | some o =>
  simp only [Option.map_some, Option.getD_some, List.mem_filterMap, Array.mem_toList_iff]
  constructor
  ·rintro ⟨e, he, h⟩
   split at h
   ·cases h; exact ⟨o, rfl, e, he, ‹_›, rfl⟩
   ·cases h
  ·rintro ⟨o', ho', e, he, hb, rfl⟩
   cases ho'
   exact ⟨e, he, by simp [hb]⟩
theorem DI {listed : Array Bool} {i : Nat} (hs : listed.size = ops.size) : i ∈ Region.ready .any ops listed ↔ i < ops.size ∧ ¬ Lis listed i ∧ ∀ k ∈ edgesB ops i, Lis listed k := by
 simp only [Region.ready, List.mem_filter, List.mem_range, Bool.and_eq_true, Bool.not_eq_true']
 constructor
 ·rintro ⟨h1, h2, h3⟩
  have ho : ops[i]? = some ops[i] := Array.getElem?_eq_getElem h1
  rw [ho] at h3
  simp only [Option.map_some, Option.getD_some] at h3
  refine ⟨h1, ?_, fun k hk => ?_⟩
  ·unfold Lis
   rw [Array.getD_eq_getD_getElem?] at h2 ⊢
   rw [Array.getElem?_eq_getElem zO] at h2 ⊢
   simpa using h2
  ·obtain ⟨o, ho', e, he, hb, rfl⟩ := Il.1 hk
   rw [ho] at ho'; cases ho'
   have := Array.all_eq_true_iff_forall_mem.1 h3 e he
   simp only [hb, Bool.not_true, Bool.false_or] at this
   exact this
 ·rintro ⟨h1, h2, h3⟩
  have ho : ops[i]? = some ops[i] := Array.getElem?_eq_getElem h1
  refine ⟨h1, ?_, ?_⟩
  ·unfold Lis at h2
   rw [Array.getD_eq_getD_getElem?] at h2 ⊢
   rw [Array.getElem?_eq_getElem zO] at h2 ⊢
   simpa using h2
  ·rw [ho]
   simp only [Option.map_some, Option.getD_some]
   refine Array.all_eq_true_iff_forall_mem.2 fun e he => ?_
   by_cases hb : Region.binds .any e = true
   ·have := h3 e.on (Il.2 ⟨_, ho, e, he, hb, rfl⟩)
    unfold Lis at this; simp [this]
   ·have : Region.binds .any e = false := by simpa using hb
    simp [this]
theorem KZ (h1 : ∀ j, j < ops.size → ∀ k ∈ edgesB ops j, k < j) {listed : Array Bool} (hs : listed.size = ops.size) (h : Region.ready .any ops listed = []) : ∀ i, i < ops.size → Lis listed i := by
 intro i
 induction i using Nat.strongRecOn with
 | _ i ih =>
  intro hi
  by_cases hl : Lis listed i
  ·exact hl
  ·have : i ∈ Region.ready .any ops listed := (DI hs).2 ⟨hi, hl, fun k hk => ih k (h1 i hi k hk) (Nat.lt_trans (h1 i hi k hk) hi)⟩
   rw [h] at this; simp at this
theorem OJ (hrun : RunF P W ops s x) {D : Nat → Prop} {st : St} (hD : Drawn ops W s x D st) (hall : ∀ i, i < ops.size → D i) : st = s ops.size := by
 have hf : st.fr = (s ops.size).fr := by
  funext t
  refine (hD.fr t).unique (EC hrun ops.size (Nat.le_refl _) t) fun i _ => ⟨hD.lt i, fun h => hall i h⟩
 obtain ⟨k, hk, h1, h2, h3⟩ := hD.mem
 have ht := CU hrun (k := k) (ops.size - k) zO (fun i o hi1 hi2 ho => by
  cases hw : isW W o.op with
  | false => rfl
  | true => have := (h3 i o ho hw).1 (hall i zO); omega)
 rw [show k + (ops.size - k) = ops.size by omega] at ht
 cases hst : st with
 | mk fr h nx =>
  rw [hst] at hf h1 h2
  simp only at hf h1 h2
  cases hsn : s ops.size with
  | mk fr' h' nx' =>
   rw [hsn] at hf ht
   simp only at hf ht
   rw [hf, h1, h2, ht.1, ht.2]
theorem CV {o : Oper} {y : Operand} (hy : y ∈ o.op.operands) {t : Nat} (ht : y = .tmp t) : t ∈ o.looksAt ops := by
 subst ht
 simp only [Oper.looksAt, List.mem_append, List.mem_filterMap]
 exact .inl ⟨.tmp t, by simpa using hy, rfl⟩
theorem Lz (hok : drawOk W ops = true) (hrun : RunF P W ops s x) {D : Nat → Prop} {st : St} (hD : Drawn ops W s x D st) {i : Nat} {o : Oper} (ho : ops[i]? = some o) (hni : ¬ D i) (hready : ∀ k ∈ edgesB ops i, D k) :
  ∃ st', OneStep P W ops st o (x i) st' ∧ Drawn ops W s x (fun j => D j ∨ j = i) st' := by
 obtain ⟨_, _, hcl⟩ := DA hok
 have hi : i < ops.size := by
  rcases Nat.lt_or_ge i ops.size with h | h
  ·exact h
  ·rw [Array.getElem?_eq_none h] at ho; cases ho
 have hD' : ∀ j, j < ops.size → bget (befs ops) i j = true → D j := by
  obtain ⟨h1, h2, _⟩ := DA hok
  intro j hj hb
  obtain ⟨k, hk, hc⟩ := h2 i j hi hj hb
  have hDk := hready k hk
  rcases hc with rfl | hc
  ·exact hDk
  ·exact hD.before hok k hDk j hj hc
 have hord : ∀ j b, ops[j]? = some b → (clash W ops b o = true ∨ clash W ops o b = true) → j ≠ i → (D j ↔ j < i) := by
  intro j b hb hc hne
  have hj : j < ops.size := by
   rcases Nat.lt_or_ge j ops.size with h | h
   ·exact h
   ·rw [Array.getElem?_eq_none h] at hb; cases hb
  have hsym : clash W ops b o = true ∧ clash W ops o b = true ∨ clash W ops b o = true ∨ clash W ops o b = true := .inr hc
  have swap : ∀ a b : Oper, clash W ops a b = true → clash W ops b a = true := by
   intro a b h
   cases h' : clash W ops b a with
   | true => rfl
   | false =>
    obtain ⟨q1, q2, q3, q4⟩ := G1 h'
    exfalso
    simp only [clash, Bool.or_eq_true] at h
    rcases h with ((h | h) | h) | h
    ·split at h
     ·rename_i d hd
      rcases Bool.or_eq_true _ _ ▸ h with h | h
      ·exact q2 d hd (by simpa using h)
      ·have : b.dst = some d := by simpa using h
       exact (q1 d this).2 hd
     ·cases h
    ·split at h
     ·rename_i d hd
      exact (q1 d hd).1 (by simpa using h)
     ·cases h
    ·rw [Bool.and_eq_true] at h
     have := q4 h.1; rw [h.2] at this; cases this
    ·rw [Bool.and_eq_true] at h
     have := q3 h.2; rw [h.1] at this; cases this
  have hc1 : clash W ops b o = true := hc.elim id (swap o b)
  have hc2 : clash W ops o b = true := swap b o hc1
  constructor
  ·intro hDj
   rcases Nat.lt_or_ge j i with h | h
   ·exact h
   ·exact absurd (hD.before hok j hDj i hi (hcl i j o b zO ho hb hc2)) hni
  ·intro hlt
   exact hD' j hj (hcl j i b o hlt hb ho hc1)
 have hlook : ∀ t, t ∈ o.looksAt ops → st.fr t = (s i).fr t := by
  intro t ht
  refine (hD.fr t).unique (EC hrun i zO t) fun j hw => ?_
  have hw' := hw
  simp only [writes] at hw'
  cases hb : ops[j]? with
  | none => rw [hb] at hw'; cases hw'
  | some b =>
   rw [hb] at hw'
   simp only [Option.bind_some] at hw'
   by_cases hji : j = i
   ·subst hji
    exact ⟨fun h => absurd h hni, fun h => by omega⟩
   ·refine hord j b hb (.inl ?_) hji
    simp only [clash, hw']
    simp [ht]
 have hev : ∀ y ∈ o.op.operands, st.ev y = (s i).ev y := by
  intro y hy
  cases y with
  | tmp t => exact hlook t (CV hy rfl)
  | const v => rfl
  | global g => rfl
  | func f => rfl
 obtain ⟨k, hk, hm1, hm2, hm3⟩ := hD.mem
 have hWi : isS o.op = true → ∀ j b, ops[j]? = some b → isW W b.op = true → j ≠ i → (D j ↔ j < i) := by
  intro hS j b hb hw hne
  refine hord j b hb (.inl ?_) hne
  simp [clash, hw, hS]
 have hmem : isS o.op = true → st.h = (s i).h ∧ st.nx = (s i).nx := by
  intro hS
  have hno : ∀ j b, min i k ≤ j → j < max i k → ops[j]? = some b → isW W b.op = false := by
   intro j b h1 h2 hb
   cases hw : isW W b.op with
   | false => rfl
   | true =>
    exfalso
    by_cases hji : j = i
    ·subst hji
     rw [ho] at hb; cases hb
     have := hm3 j o ho hw
     exact hni (this.2 zO)
    ·have a := hm3 j b hb hw
     have b' := hWi hS j b hb hw hji
     by_cases hDj : D j
     ·have := a.1 hDj; have := b'.1 hDj; omega
     ·have : ¬ j < k := fun h => hDj (a.2 h)
      have : ¬ j < i := fun h => hDj (b'.2 h)
      omega
  rcases Nat.le_total i k with h | h
  ·have := CU hrun (k := i) (k - i) zO (fun j b h1 h2 hb => hno j b zO zO hb)
   rw [show i + (k - i) = k by omega] at this
   exact ⟨hm1.trans this.1, hm2.trans this.2⟩
  ·have := CU hrun (k := k) (i - k) zO (fun j b h1 h2 hb => hno j b zO zO hb)
   rw [show k + (i - k) = i by omega] at this
   exact ⟨hm1.trans this.1.symm, hm2.trans this.2.symm⟩
 have hguard : guardA ops st o = guardA ops (s i) o := by
  unfold guardA
  cases hg : o.guard with
  | none => rfl
  | some p =>
   obtain ⟨j, want⟩ := p
   simp only
   cases hd : (ops[j]?).bind (·.dst) with
   | none => rfl
   | some d =>
    simp only
    rw [hlook d (by simp only [Oper.looksAt, List.mem_append, hg, hd]; exact .inr zS)]
 have hstep : ∃ st', OneStep P W ops st o (x i) st' ∧ st'.fr = (st.put o.dst (x i)).fr ∧ (isS o.op = true → st'.h = (s (i + 1)).h ∧ st'.nx = (s (i + 1)).nx) ∧ (isS o.op = false → st'.h = st.h ∧ st'.nx = st.nx) := by
  rcases hrun i o ho with ⟨hg, st1, h1, h2⟩ | ⟨hg, hx, h2⟩
  ·obtain ⟨st2, k1, k2, k3, k4⟩ := C9 h1 hev hmem
   refine ⟨st2.put o.dst (x i), .inl ⟨by rw [hguard]; exact hg, st2, k1, rfl⟩, ?_, fun hS => ?_, fun hS => ?_⟩
   ·cases o.dst <;> simp [St.put, k2]
   ·rw [(AY ..).1, (AY ..).2, h2, (AY ..).1, (AY ..).2]; exact k3 hS
   ·rw [(AY ..).1, (AY ..).2]; exact k4 hS
  ·refine ⟨st.put o.dst (.tup []), .inr ⟨by rw [hguard]; exact hg, hx, rfl⟩, by rw [hx], fun hS => ?_, fun _ => by rw [(AY ..).1, (AY ..).2]; exact ⟨rfl, rfl⟩⟩
   rw [(AY ..).1, (AY ..).2, h2, (AY ..).1, (AY ..).2]; exact hmem hS
 obtain ⟨st', g1, g2, g3, g4⟩ := hstep
 refine ⟨st', g1, ⟨?_, ?_, ?_, ?_⟩⟩
 ·rintro j (hj | rfl) k hk
  ·exact .inl (hD.shut j hj k hk)
  ·exact .inl (hready k hk)
 ·rintro j (hj | rfl)
  ·exact hD.lt j hj
  ·exact hi
 ·intro t
  rw [g2]
  by_cases hw : writes ops i t
  ·have hd : o.dst = some t := by simpa [writes, ho] using hw
   refine .inl ⟨i, .inr rfl, hw, ?_, by rw [hd]; simp [St.put, upd]⟩
   rintro j (hj | rfl) hwj
   ·have hb' := hwj
    simp only [writes] at hb'
    cases hb : ops[j]? with
    | none => rw [hb] at hb'; cases hb'
    | some b =>
     rw [hb] at hb'
     simp only [Option.bind_some] at hb'
     have hne : j ≠ i := fun e => hni (e ▸ hj)
     have := (hord j b hb (.inl (by simp [clash, hb', hd])) hne).1 hj
     omega
   ·exact Nat.le_refl _
  ·have hv : (st.put o.dst (x i)).fr t = st.fr t := by
    cases hd : o.dst with
    | none => rfl
    | some d =>
     have hne : t ≠ d := fun e => hw (by simp [writes, ho, hd, e])
     simp [St.put, upd, hne]
   rw [hv]
   rcases hD.fr t with ⟨j, a1, a2, a3, a4⟩ | ⟨a1, a2⟩
   ·refine .inl ⟨j, .inl a1, a2, ?_, a4⟩
    rintro j' (h | rfl) hw'
    ·exact a3 j' h hw'
    ·exact absurd hw' hw
   ·refine .inr ⟨?_, a2⟩
    rintro j (h | rfl) hw'
    ·exact a1 j h hw'
    ·exact hw hw'
 ·by_cases hwi : isW W o.op = true
  ·have hS := Eu hwi
   obtain ⟨e1, e2⟩ := g3 hS
   refine ⟨i + 1, zO, e1, e2, fun j b hb hw => ?_⟩
   by_cases hji : j = i
   ·subst hji; exact ⟨fun _ => by omega, fun _ => .inr rfl⟩
   ·have := hWi hS j b hb hw hji
    constructor
    ·rintro (h | h)
     ·have := this.1 h; omega
     ·exact absurd h hji
    ·intro h; exact .inl (this.2 zO)
  ·have hwi' : isW W o.op = false := by simpa using hwi
   have hsame : st'.h = st.h ∧ st'.nx = st.nx := (Bh g1).2 hwi'
   refine ⟨k, hk, hsame.1.trans hm1, hsame.2.trans hm2, fun j b hb hw => ?_⟩
   have hji : j ≠ i := by
    rintro rfl
    rw [ho] at hb; cases hb
    exact hwi hw
   rw [← hm3 j b hb hw]
   exact ⟨fun h => h.elim id (fun e => absurd e hji), .inl⟩
theorem GH (h1' : ∀ j, j < ops.size → ∀ k ∈ edgesB ops j, k < j) (hrun : RunF P W ops s x) (hstep : ∀ (D : Nat → Prop) (st : St), Drawn ops W s x D st → ∀ (i : Nat) (o : Oper), ops[i]? = some o → ¬ D i → (∀ k ∈ edgesB ops i, D k) → ∃ st', OneStep P W ops st o (x i) st' ∧ Drawn ops W s x (fun j => D j ∨ j = i) st') (hd : ∀ o ∈ ops, ∀ d, o.dst = some d → d < n) {w0 : Env}
  (hQ : ∀ a' E', Rel P E' (s ops.size) a' → a'.tmps.size = n → a'.defers = [] → w0.Le E' → Goes P w0 E' → Q .normal a' E'.w) : ∀ (fuel : Nat) (listed : Array Bool) (a : Act) (E : Env) (st : St), listed.size = ops.size →
  listed.toList.count false ≤ fuel → Rel P E st a → a.tmps.size = n → a.defers = [] → Ok P w0 → w0.Le E → Goes P w0 E → Drawn ops W s x (Lis listed) st → wpAny P .any ops Q fuel listed a E.w := by
 intro fuel
 have done : ∀ (listed : Array Bool) (a : Act) (E : Env) (st : St), listed.size = ops.size → Region.ready .any ops listed = [] → Rel P E st a → a.tmps.size = n → a.defers = [] → w0.Le E → Goes P w0 E → Drawn ops W s x (Lis listed) st → Q .normal a E.w := by
  intro listed a E st hs hr hR hn hdf hle hgo hD
  have := OJ hrun hD (KZ h1' hs hr)
  subst this
  exact hQ a E hR hn hdf hle hgo
 induction fuel with
 | zero =>
  intro listed a E st hs hc hR hn hdf hok0 hle hgo hD
  have hr : Region.ready .any ops listed = [] := by
   rw [List.eq_nil_iff_forall_not_mem]
   intro i hi
   obtain ⟨h1, h2, _⟩ := (DI hs).1 hi
   have h0 : listed.toList.count false = 0 := by omega
   rw [List.count_eq_zero] at h0
   refine h0 ?_
   unfold Lis at h2
   rw [Array.getD_eq_getD_getElem?, Array.getElem?_eq_getElem zO] at h2
   have : listed[i] = false := by simpa using h2
   rw [← this]; exact Array.getElem_mem_toList _
  exact ⟨hr, done listed a E st hs hr hR hn hdf hle hgo hD⟩
 | succ fuel ih =>
  intro listed a E st hs hc hR hn hdf hok0 hle hgo hD
  refine ⟨fun hr => done listed a E st hs hr hR hn hdf hle hgo hD, fun i hi => ?_⟩
  obtain ⟨h1, h2, h3⟩ := (DI hs).1 hi
  have ho : ops[i]? = some ops[i] := Array.getElem?_eq_getElem h1
  obtain ⟨st', g1, g2⟩ := hstep _ _ hD _ _ ho h2 h3
  refine Dm ho hR (fun d hdd => by rw [hn]; exact hd _ (Array.mem_of_getElem? ho) d hdd) g1 _ fun a' E' k1 k2 k3 k4 k5 => ?_
  have hL : ∀ j, Lis (listed.setIfInBounds i true) j ↔ Lis listed j ∨ j = i := by
   intro j
   unfold Lis
   rw [Array.getD_eq_getD_getElem?, Array.getD_eq_getD_getElem?]
   by_cases hji : j = i
   ·subst hji
    rw [Array.getElem?_setIfInBounds_self, if_pos zO]
    simp
   ·rw [Array.getElem?_setIfInBounds_ne (fun e => hji e.symm)]
    simp [hji]
  refine ih _ a' E' st' (by simpa using hs) ?_ k1 (by rw [k2, hn]) (by rw [k3, hdf]) hok0 (hle.trans k4) (hgo.trans hok0 k5) ?_
  ·have hfalse : listed.toList[i]'(by simp; omega) = false := by
    unfold Lis at h2
    rw [Array.getD_eq_getD_getElem?, Array.getElem?_eq_getElem zO] at h2
    simpa using h2
   rw [Array.toList_setIfInBounds, List.count_set zW, hfalse]
   have e1 : (if (false == false) = true then 1 else 0) = 1 := rfl
   have e2 : (if (true == false) = true then 1 else 0) = 0 := rfl
   rw [e1, e2]; omega
  ·have : (fun j => Lis listed j ∨ j = i) = Lis (listed.setIfInBounds i true) := by
    funext j; exact propext (hL j).symm
   rw [← this]; exact g2
theorem PZ (hok : drawOk W ops = true) (hrun : RunF P W ops s x) (hd : ∀ o ∈ ops, ∀ d, o.dst = some d → d < n) {w0 : Env}
  (hQ : ∀ a' E', Rel P E' (s ops.size) a' → a'.tmps.size = n → a'.defers = [] → w0.Le E' → Goes P w0 E' → Q .normal a' E'.w) : ∀ (fuel : Nat) (listed : Array Bool) (a : Act) (E : Env) (st : St), listed.size = ops.size →
  listed.toList.count false ≤ fuel → Rel P E st a → a.tmps.size = n → a.defers = [] → Ok P w0 → w0.Le E → Goes P w0 E → Drawn ops W s x (Lis listed) st → wpAny P .any ops Q fuel listed a E.w :=
 GH (DA hok).1 hrun (fun _ _ hD _ _ ho hni hr => Lz hok hrun hD ho hni hr) hd hQ
end
def idOf : AV → List Nat
 | .ptr id _ _ _ => [id]
 | .ref id _ _ _ => [id]
 | _ => []
inductive Kd where
 | blind | look (y : Operand) | put (y : Operand) | app (y v : Operand) | new | call (as0 : List Operand) | wild
def kdOf : Op → Kd
 | .load _ a => .look a
 | .indexAddr _ x _ => .look x
 | .slice _ x _ _ _ => .look x
 | .store _ a _ => .put a
 | .alloc _ => .new
 | .call { callee := .builtin .len, args := as0, argTypes := _ } => match as0.toList with | [x] => .look x | _ => .wild
 | .call { callee := .builtin .append, args := as0, argTypes := _ } => match as0.toList with | [y, v] => .app y v | _ => .wild
 | .call { callee := .value (.func _), args := as0, argTypes := _ } => .call as0.toList
 | o => if isS o then .wild else .blind
def idsK (st : St) (dst : Option Tmp) : Kd → List Nat
 | .look y => idOf (st.ev y)
 | .put y => idOf (st.ev y)
 | .app y _ => idOf (st.ev y)
 | .new => match dst with | some d => idOf (st.fr d) | none => []
 | _ => []
def idsO (st : St) (o : Oper) : List Nat := idsK st o.dst (kdOf o.op)
def Kd.chg : Kd → Bool | .put _ | .app _ _ | .new => true | _ => false
def Kd.tch : Kd → Bool | .put _ | .app _ _ | .new | .look _ => true | _ => false
def Kd.wld : Kd → Bool | .wild => true | _ => false
def apartAt (st : St) (ops : Array Oper) (p : Nat × Nat) : Prop :=
 match ops[p.1]?, ops[p.2]? with
 | some a, some b => ∀ i ∈ idsO st a, i ∉ idsO st b
 | _, _ => True
def apartL (st : St) (ops : Array Oper) : List (Nat × Nat) → Prop
 | [] => True
 | p :: ps => apartAt st ops p ∧ apartL st ops ps
def isRefA : AV → Bool | .ref _ _ _ _ => true | _ => false
def isSlA : AV → Bool | .sl _ _ _ _ => true | _ => false
def pureK (st : St) : Kd → Prop
 | .app y v => isRefA (st.ev y) = true ∧ isSlA (st.ev v) = true
 | .call as0 => AV.pureL (as0.map st.ev) = true
 | _ => True
def pureOL (st : St) : List Oper → Prop
 | [] => True
 | o :: os => pureK st (kdOf o.op) ∧ pureOL st os
theorem FR {st : St} {ops : Array Oper} : ∀ {ps : List (Nat × Nat)}, apartL st ops ps → ∀ p ∈ ps, apartAt st ops p
 | [], _, _, h => by cases h
 | q :: ps, h, p, hp => by
  rcases List.mem_cons.1 hp with rfl | hp
  ·exact h.1
  ·exact FR h.2 p hp
theorem FS {st : St} : ∀ {os : List Oper}, pureOL st os → ∀ o ∈ os, pureK st (kdOf o.op)
 | [], _, _, h => by cases h
 | q :: ps, h, p, hp => by
  rcases List.mem_cons.1 hp with rfl | hp
  ·exact h.1
  ·exact FS h.2 p hp
def tmpClash (ops : Array Oper) (a b : Oper) : Bool :=
 (match a.dst with | some d => (b.looksAt ops).contains d || b.dst == some d | none => false) || (match b.dst with | some d => (a.looksAt ops).contains d | none => false)
def tmpsK (dst : Option Tmp) : Kd → List Tmp
 | .look (.tmp t) => [t]
 | .put (.tmp t) => [t]
 | .app y v => [y, v].filterMap fun y => match y with | .tmp t => some t | _ => none
 | .new => dst.toList
 | .call as0 => as0.filterMap fun y => match y with | .tmp t => some t | _ => none
 | _ => []
def drawOkD (ps : List (Nat × Nat)) (ops : Array Oper) : Bool :=
 let B := befs ops
 let r := List.range ops.size
 (r.all fun j => (edgesB ops j).all fun k => decide (k < j)) &&
 (r.all fun j => r.all fun i => !(bget B j i) || (edgesB ops j).any fun k => k == i || bget B k i) &&
 (r.all fun j => (List.range j).all fun i => match ops[i]?, ops[j]? with
  | some a, some b => (!(tmpClash ops a b) || bget B j i) && (!(((kdOf a.op).chg && (kdOf b.op).tch) || ((kdOf a.op).tch && (kdOf b.op).chg)) || bget B j i || ps.contains (i, j))
  | _, _ => true) &&
 (r.all fun i => match ops[i]? with
  | some o => !(kdOf o.op).wld && (tmpsK o.dst (kdOf o.op)).all fun t => r.all fun j => decide (j < i) || (match ops[j]? with | some b => !(b.dst == some t) || (j == i && (match kdOf o.op with | .new => true | _ => false)) | none => true)
  | none => true)
section
variable {P : Program} {W : FuncId → Bool} {ops : Array Oper} {s : Nat → St} {x : Nat → AV}
theorem B8 {ps : List (Nat × Nat)} (h : drawOkD ps ops = true) : (∀ j, j < ops.size → ∀ k ∈ edgesB ops j, k < j) ∧
  (∀ j i, j < ops.size → i < ops.size → bget (befs ops) j i = true → ∃ k ∈ edgesB ops j, k = i ∨ bget (befs ops) k i = true) ∧
  (∀ i j a b, i < j → ops[i]? = some a → ops[j]? = some b → (tmpClash ops a b = true → bget (befs ops) j i = true) ∧
   (((kdOf a.op).chg = true ∧ (kdOf b.op).tch = true ∨ (kdOf a.op).tch = true ∧ (kdOf b.op).chg = true) → bget (befs ops) j i = true ∨ (i, j) ∈ ps)) ∧
  (∀ (i : Nat) (o : Oper), ops[i]? = some o → (kdOf o.op).wld = false ∧ ∀ t ∈ tmpsK o.dst (kdOf o.op), ∀ j, i ≤ j → ∀ b : Oper, ops[j]? = some b → b.dst = some t → j = i ∧ kdOf o.op = .new) := by
 simp only [drawOkD, Bool.and_eq_true, List.all_eq_true, List.mem_range, decide_eq_true_eq] at h
 obtain ⟨⟨⟨h1, h2⟩, h3⟩, h4⟩ := h
 have lt : ∀ {i : Nat} {a : Oper}, ops[i]? = some a → i < ops.size := fun {i a} ha => by
  rcases Nat.lt_or_ge i ops.size with h | h
  ·exact h
  ·rw [Array.getElem?_eq_none h] at ha; cases ha
 refine ⟨h1, fun j i hj hi hb => ?_, fun i j a b hij ha hb => ?_, fun i o ho => ?_⟩
 ·have := h2 j hj i hi
  rw [hb] at this
  simp only [Bool.not_true, Bool.false_or, List.any_eq_true, Bool.or_eq_true, beq_iff_eq] at this
  exact this
 ·have := h3 j (lt hb) i hij
  rw [ha, hb] at this
  simp only [Bool.and_eq_true, Bool.or_eq_true, Bool.not_eq_true', Bool.or_eq_false_iff, Bool.and_eq_false_iff, List.contains_eq_mem, decide_eq_true_eq] at this
  obtain ⟨k1, k2⟩ := this
  refine ⟨fun hc => k1.resolve_left (by rw [hc]; simp), fun hc => ?_⟩
  rcases k2 with (⟨q1, q2⟩ | q) | q
  ·exfalso
   rcases hc with ⟨c1, c2⟩ | ⟨c1, c2⟩
   ·rcases q1 with q | q
    ·rw [c1] at q; cases q
    ·rw [c2] at q; cases q
   ·rcases q2 with q | q
    ·rw [c1] at q; cases q
    ·rw [c2] at q; cases q
  ·exact .inl q
  ·exact .inr q
 ·have := h4 i (lt ho)
  rw [ho] at this
  simp only [Bool.and_eq_true, Bool.not_eq_true', List.all_eq_true, List.mem_range, Bool.or_eq_true, decide_eq_true_eq] at this
  refine ⟨this.1, fun t ht j hij b hb hd => ?_⟩
  have k := this.2 t ht j (lt hb)
  rw [hb] at k
  simp only [Bool.or_eq_true, Bool.not_eq_true', Bool.and_eq_true, beq_iff_eq, hd, BEq.rfl, Bool.true_eq_false, false_or] at k
  rcases k with k | ⟨k1, k2⟩
  ·omega
  ·refine ⟨k1, ?_⟩
   cases hk : kdOf o.op <;> rw [hk] at k2 <;> first | rfl | cases k2
def Hof (ops : Array Oper) (s : Nat → St) (k : Nat) (id : Nat) : Blk := if (s k).nx ≤ id ∧ id < (s ops.size).nx then Blk.dead else (s k).h id
structure Drawn2 (ops : Array Oper) (s : Nat → St) (x : Nat → AV) (D : Nat → Prop) (st : St) : Prop where
 shut : ∀ j, D j → ∀ k ∈ edgesB ops j, D k
 lt : ∀ j, D j → j < ops.size
 fr : ∀ t, Holds ops s x D t (st.fr t)
 nx : st.nx = (s ops.size).nx
 mem : ∀ id, ∃ k, k ≤ ops.size ∧ st.h id = Hof ops s k id ∧ ∀ i, i < ops.size → Hof ops s i id ≠ Hof ops s (i + 1) id → (D i ↔ i < k)
theorem Ev (h1 : ∀ j, j < ops.size → ∀ k ∈ edgesB ops j, k < j) (h2 : ∀ j i, j < ops.size → i < ops.size → bget (befs ops) j i = true → ∃ k ∈ edgesB ops j, k = i ∨ bget (befs ops) k i = true) {D : Nat → Prop}
  (shut : ∀ j, D j → ∀ k ∈ edgesB ops j, D k) (lt : ∀ j, D j → j < ops.size) : ∀ j, D j → ∀ i, i < ops.size → bget (befs ops) j i = true → D i := by
 intro j
 induction j using Nat.strongRecOn with
 | _ j ih =>
  intro hj i hi hb
  obtain ⟨k, hk, hc⟩ := h2 j i (lt j hj) hi hb
  have hDk := shut j hj k hk
  rcases hc with rfl | hc
  ·exact hDk
  ·exact ih k (h1 j (lt j hj) k hk) hDk i hi hc
theorem Ka {st st2 : St} {t : Nat} {a : AV} (hh : ∀ id ∈ idOf a, st2.h id = st.h id) : loadA P st2 t a = loadA P st t a := by
 cases a <;> try rfl
 rename_i id n i j
 simp only [loadA, hh id (by simp [idOf])]
theorem Pa {st : St} {t : Nat} {a y : AV} (h : loadA P st t a = some y) : ∀ id ∈ idOf a, (st.h id).lv = true := by
 intro i hi
 cases a <;> simp only [loadA] at h <;> simp [idOf] at hi <;> try (cases h; done)
 subst hi
 split at h
 ·rename_i hc; exact hc.1
 ·cases h
theorem R7 {st st2 : St} {a : AV} (hh : ∀ id ∈ idOf a, st2.h id = st.h id) : lenA st2 a = lenA st a := by
 cases a <;> try rfl
 rename_i id n i j
 simp only [lenA, hh id (by simp [idOf])]
theorem R8 {st : St} {a : AV} {y : Int} (h : lenA st a = some y) : ∀ id ∈ idOf a, (st.h id).lv = true := by
 intro i hi
 cases a <;> simp only [lenA] at h <;> simp [idOf] at hi <;> try (cases h; done)
 subst hi
 split at h
 ·rename_i hc; exact hc.1
 ·cases h
theorem R9 {st st2 : St} {t : Nat} {a i : AV} (hh : ∀ id ∈ idOf a, st2.h id = st.h id) : indexAddrA P st2 t a i = indexAddrA P st t a i := by
 cases a
 case ref id n k j =>
  cases i <;> try rfl
  simp only [indexAddrA, hh id (by simp [idOf])]
 all_goals (cases i <;> rfl)
theorem SA {st : St} {t : Nat} {a i y : AV} (h : indexAddrA P st t a i = some y) : ∀ id ∈ idOf a, (st.h id).lv = true := by
 intro j hj
 cases a <;> cases i <;> simp only [indexAddrA] at h <;> simp [idOf] at hj <;> try (cases h; done)
 subst hj
 split at h
 ·rename_i hc; exact hc.1
 ·cases h
theorem OK {st st2 : St} {t : Nat} {a : AV} {lo hi mx : Option AV} (hh : ∀ id ∈ idOf a, st2.h id = st.h id) : sliceA P st2 t a lo hi mx = sliceA P st t a lo hi mx := by
 cases mx <;> cases a
 case some.ref v id n k j => simp only [sliceA, hh id (by simp [idOf])]
 case none.ref id n k j => simp only [sliceA, hh id (by simp [idOf])]
 all_goals rfl
theorem OL {st : St} {t : Nat} {a y : AV} {lo hi mx : Option AV} (h : sliceA P st t a lo hi mx = some y) : ∀ id ∈ idOf a, (st.h id).lv = true := by
 intro j hj
 cases a <;> simp [idOf] at hj
 case ptr => cases mx <;> simp only [sliceA] at h <;> first | (cases h; done) | (split at h <;> cases h)
 subst hj
 cases mx <;> simp only [sliceA] at h
 ·split at h
  ·rename_i hc; exact hc.1
  ·cases h
 ·split at h
  ·split at h
   ·rename_i hc; exact hc.1
   ·cases h
  ·cases h
theorem L3 {st st2 st' : St} {o : Op} {y : Operand} {z : AV} (hk : kdOf o = .put y) (hev : ∀ y ∈ o.operands, st2.ev y = st.ev y) (hh : ∀ id ∈ idOf (st.ev y), st2.h id = st.h id) (h : evalOp P st o = some (z, st')) :
  ∃ id b, idOf (st.ev y) = [id] ∧ (st.h id).lv = true ∧ st' = { st with h := upd st.h id b } ∧ evalOp P st2 o = some (z, { st2 with h := upd st2.h id b }) := by
 cases o <;> simp only [Op.operands] at hev <;> simp only [kdOf] at hk <;> try (cases hk; done)
 case store t a v =>
  cases hk
  simp only [evalOp] at h ⊢
  split at h
  ·rename_i hc
   rw [if_pos hc, hev y zS, hev v zS]
   cases ha : st.ev y <;> rw [ha] at h hh <;> simp only [storeA, Option.map_none, reduceCtorEq] at h
   rename_i id n i j
   simp only [storeA]
   rw [hh id (by simp [idOf])]
   split at h
   ·rename_i hl
    rw [if_pos hl]
    split at h
    ·rename_i w hw
     try rw [hw]
     try simp only
     cases hs : stA P t w j (st.ev v) with
     | none => rw [hs] at h; cases h
     | some x' =>
      rw [hs] at h
      simp only [Option.map_some, Option.some.injEq, Prod.mk.injEq] at h ⊢
      exact ⟨id, _, rfl, hl.1, h.2.symm, h.1, rfl⟩
    ·cases h
   ·cases h
  ·cases h
 case call c =>
  obtain ⟨callee, args, ts⟩ := c
  cases callee with
  | invoke r m => simp [isS] at hk
  | value f => cases f <;> simp [isS] at hk
  | builtin b =>
   cases b <;> simp [isS] at hk
   all_goals (try (split at hk <;> cases hk; done))
 all_goals (try (simp [isS] at hk; done))
 all_goals (try (split at hk <;> cases hk; done))
theorem JY {st st2 st' : St} {o : Op} {y : Operand} {z : AV} (hk : kdOf o = .look y) (hev : ∀ y ∈ o.operands, st2.ev y = st.ev y) (hh : ∀ id ∈ idOf (st.ev y), st2.h id = st.h id) (h : evalOp P st o = some (z, st')) :
  st' = st ∧ evalOp P st2 o = some (z, st2) ∧ ∀ id ∈ idOf (st.ev y), (st.h id).lv = true := by
 have mm : ∀ (r : Option AV), (r.map fun z => (z, st)) = some (z, st') → st' = st ∧ (r.map fun z => (z, st2)) = some (z, st2) ∧ r = some z := by
  intro r hr; cases r with
  | none => cases hr
  | some z => cases hr; exact ⟨rfl, rfl, rfl⟩
 cases o <;> simp only [Op.operands] at hev <;> simp only [kdOf] at hk <;> try (cases hk; done)
 case load t a =>
  cases hk
  simp only [evalOp] at h ⊢
  split at h
  ·rename_i hc
   obtain ⟨k1, k2, k3⟩ := mm _ h
   rw [if_pos hc, hev y zS, Ka hh]
   exact ⟨k1, k2, Pa k3⟩
  ·cases h
 case indexAddr t x i =>
  cases hk
  simp only [evalOp] at h ⊢
  obtain ⟨k1, k2, k3⟩ := mm _ h
  rw [hev y zS, hev i zS, R9 hh]
  exact ⟨k1, k2, SA k3⟩
 case slice t x lo hi mx =>
  cases hk
  simp only [evalOp] at h ⊢
  obtain ⟨k1, k2, k3⟩ := mm _ h
  have h1 : lo.map st2.ev = lo.map st.ev := by cases lo with | none => rfl | some y => simp [hev y zS]
  have h2 : hi.map st2.ev = hi.map st.ev := by cases hi with | none => rfl | some y => simp [hev y zS]
  have h3 : mx.map st2.ev = mx.map st.ev := by cases mx with | none => rfl | some y => simp [hev y zS]
  rw [h1, h2, h3, hev y zS, OK hh]
  exact ⟨k1, k2, OL k3⟩
 case buildSlice t len ps => split at hk <;> cases hk
 case convert s d y => split at hk <;> cases hk
 case call c =>
  obtain ⟨callee, args, ts⟩ := c
  cases callee with
  | invoke r m => simp [isS] at hk
  | value f => cases f <;> simp [isS] at hk
  | builtin b =>
   cases b <;> simp [isS] at hk
   case len =>
    split at hk
    ·rename_i x hx
     cases hk
     have hm : st2.ev y = st.ev y := hev y (by
      simp [Call.operands]
      have : y ∈ args.toList := by rw [hx]; simp
      simpa using this)
     simp only [evalOp] at h ⊢
     rw [hx] at h ⊢
     split at h
     ·rename_i x' t' h1 h2
      cases h1
      split at h
      ·rename_i hc
       cases hl : lenA st (st.ev y) with
       | none => rw [hl] at h; cases h
       | some n =>
        rw [hl] at h
        simp only [Option.map_some, Option.some.injEq, Prod.mk.injEq] at h
        refine ⟨h.2.symm, ?_, R8 hl⟩
        try rw [h2]
        simp only [hm, hc, if_true, R7 hh, hl, Option.map_some, h.1]
      ·cases h
     all_goals (first | (rename_i h1 _ _; cases h1; done) | (rename_i h1 _; cases h1; done) | (cases h; done))
    ·cases hk
   all_goals (first | cases hk | (split at hk <;> cases hk; done) | skip)
theorem L4 {st st2 st' : St} {o : Op} {y v : Operand} {z : AV} (hk : kdOf o = .app y v) (hp : isRefA (st.ev y) = true ∧ isSlA (st.ev v) = true) (hev : ∀ y ∈ o.operands, st2.ev y = st.ev y) (hh : ∀ id ∈ idOf (st.ev y), st2.h id = st.h id) (h : evalOp P st o = some (z, st')) :
  ∃ id b, idOf (st.ev y) = [id] ∧ (st.h id).lv = true ∧ st' = { st with h := upd st.h id b } ∧ evalOp P st2 o = some (z, { st2 with h := upd st2.h id b }) := by
 cases o <;> simp only [Op.operands] at hev <;> simp only [kdOf] at hk <;> try (cases hk; done)
 case call c =>
  obtain ⟨callee, args, ts⟩ := c
  cases callee with
  | invoke r m => simp [isS] at hk
  | value f => cases f <;> simp [isS] at hk
  | builtin b =>
   cases b <;> simp [isS] at hk
   case append =>
    split at hk
    ·rename_i y' v' hx
     cases hk
     have hm1 : st2.ev y = st.ev y := hev y (by
      simp [Call.operands]
      have : y ∈ args.toList := by rw [hx]; simp
      simpa using this)
     have hm2 : st2.ev v = st.ev v := hev v (by
      simp [Call.operands]
      have : v ∈ args.toList := by rw [hx]; simp
      simpa using this)
     obtain ⟨hp1, hp2⟩ := hp
     cases ha : st.ev y <;> rw [ha] at hp1 <;> simp only [isRefA, Bool.false_eq_true] at hp1
     rename_i id n off len
     cases hb : st.ev v <;> rw [hb] at hp2 <;> simp only [isSlA, Bool.false_eq_true] at hp2
     rename_i t xs sp ex
     rw [ha] at hh
     have hid := hh id (by simp [idOf])
     simp only [evalOp] at h ⊢
     rw [hx] at h ⊢
     cases hts : ts.toList with
     | nil => rw [hts] at h; cases h
     | cons a l =>
      cases l with
      | nil => rw [hts] at h; cases h
      | cons b l =>
       cases l with
       | cons c l => rw [hts] at h; cases h
       | nil =>
        rw [hts] at h
        simp only [hm1, hm2, ha, hb] at h ⊢
        obtain ⟨e, he, h⟩ := Option.bind_eq_some_iff.1 h
        rw [he]
        simp only [Option.bind_some, winA] at h ⊢
        split at h
        ·rename_i ys hys
         simp only [appendA] at h ⊢
         rw [hid]
         split at h
         ·rename_i hl
          rw [if_pos hl]
          split at h
          ·rename_i hc
           rw [if_pos hc]
           simp only [Option.some.injEq, Prod.mk.injEq] at h ⊢
           exact ⟨id, _, rfl, hl.1, h.2.symm, h.1, rfl⟩
          ·rename_i hc
           rw [if_neg hc]
           split at h
           ·rename_i hc2
            rw [if_pos hc2]
            simp only [Option.some.injEq, Prod.mk.injEq] at h ⊢
            exact ⟨id, _, rfl, hl.1, h.2.symm, h.1, rfl⟩
           ·cases h
         ·cases h
        ·simp only [appendN] at h; cases h
    ·cases hk
   all_goals (try (split at hk <;> cases hk; done))
 all_goals (try (simp [isS] at hk; done))
 all_goals (try (split at hk <;> cases hk; done))
theorem Pb {o : Op} (h : kdOf o = .blind) : isS o = false := by
 unfold kdOf at h
 split at h
 case h_6 => split at h <;> cases h
 case h_7 => split at h <;> cases h
 case h_9 =>
  by_cases hs : isS o = true
  ·rw [if_pos hs] at h; cases h
  ·simpa using hs
 all_goals cases h
theorem Pc {o : Op} (h : kdOf o = .new) : ∃ e, o = .alloc e := by
 unfold kdOf at h
 split at h <;> first | exact ⟨_, rfl⟩ | (cases h; done) | (split at h <;> cases h; done)
theorem Pd {st st' : St} {o : Op} {y : AV} (hw : (kdOf o).wld = false) (hc : (kdOf o).chg = false) (hW : ∀ as0, kdOf o = .call as0 → isW W o = false) (h : OpStep P W st o y st') : st'.h = st.h ∧ st'.nx = st.nx := by
 refine (Fk h).2 ?_
 cases o <;> simp only [kdOf] at hw hc <;> try rfl
 all_goals (try (simp [Kd.chg] at hc; done))
 case box => simp [isS, Kd.wld] at hw
 case makeSlice => simp [isS, Kd.wld] at hw
 case buildSlice t len ps =>
  by_cases hl : len = 0
  ·simp [isS, hl, Kd.wld] at hw
  ·simp [isW, hl]
 case call c =>
  obtain ⟨callee, args, ts⟩ := c
  cases callee with
  | invoke r m => rfl
  | value f =>
   cases f with
   | func g => exact hW _ rfl
   | tmp t => rfl
   | const v => rfl
   | global g => rfl
  | builtin b =>
   cases b <;> first | rfl | (simp [isS, Kd.wld] at hw; done) | skip
   simp only [kdOf] at hc hw
   split at hc
   ·simp [Kd.chg] at hc
   ·rename_i hno
    simp [Kd.wld] at hw
theorem JZ {st st2 : St} {t : Tmp} (h : st2.fr t = st.fr t) : st2.ev (.tmp t) = st.ev (.tmp t) := h
theorem ED (hrun : RunF P W ops s x) {i : Nat} {t : Tmp} (hno : ∀ j, i ≤ j → ∀ b, ops[j]? = some b → b.dst ≠ some t) : ∀ m, i ≤ m → m ≤ ops.size → (s m).fr t = (s i).fr t := by
 intro m him
 induction him with
 | refl => intro _; rfl
 | @step m him ih =>
  intro hm
  have ho : ops[m]? = some ops[m] := Array.getElem?_eq_getElem zO
  rw [(Bh (hrun m _ ho)).1, ← ih zO]
  have hne := hno m him _ ho
  cases hd : ops[m].dst with
  | none => rfl
  | some d =>
   have : t ≠ d := fun e => hne (by rw [hd, e])
   simp [St.put, upd, this]
structure DHyp (P : Program) (W : FuncId → Bool) (ops : Array Oper) (s : Nat → St) (x : Nat → AV) (ps : List (Nat × Nat)) : Prop where
 ok : drawOkD ps ops = true
 run : RunF P W ops s x
 apart : apartL (s ops.size) ops ps
 pure : pureOL (s ops.size) ops.toList
 dead : ∀ id, (s 0).nx ≤ id → ((s 0).h id).lv = false
 nw : ∀ (i : Nat) (o : Oper) as0, ops[i]? = some o → kdOf o.op = .call as0 → isW W o.op = false
variable {ps : List (Nat × Nat)}
theorem DHyp.lt_of {i : Nat} {o : Oper} (ho : ops[i]? = some o) : i < ops.size := by
 rcases Nat.lt_or_ge i ops.size with h | h
 ·exact h
 ·rw [Array.getElem?_eq_none h] at ho; cases ho
theorem DHyp.stay (H : DHyp P W ops s x ps) {i : Nat} {o : Oper} (ho : ops[i]? = some o) (hn : kdOf o.op ≠ .new) {t : Tmp} (ht : t ∈ tmpsK o.dst (kdOf o.op)) : (s ops.size).fr t = (s i).fr t := by
 refine ED H.run (fun j hij b hb hd => ?_) _ (Nat.le_of_lt (DHyp.lt_of ho)) (Nat.le_refl _)
 exact hn (((B8 H.ok).2.2.2 i o ho).2 t ht j hij b hb hd).2
theorem DHyp.ev_stay (H : DHyp P W ops s x ps) {i : Nat} {o : Oper} (ho : ops[i]? = some o) {y : Operand} (hk : kdOf o.op = .look y ∨ kdOf o.op = .put y ∨ ∃ v, kdOf o.op = .app y v ∨ kdOf o.op = .app v y) : (s ops.size).ev y = (s i).ev y := by
 cases y with
 | tmp t =>
  refine JZ (H.stay ho (by rcases hk with h | h | ⟨v, h | h⟩ <;> rw [h] <;> simp) ?_)
  rcases hk with h | h | ⟨v, h | h⟩ <;> rw [h] <;> simp [tmpsK]
 | const v => rfl
 | global g => rfl
 | func f => rfl
theorem DHyp.appP (H : DHyp P W ops s x ps) {i : Nat} {o : Oper} (ho : ops[i]? = some o) {y v : Operand} (hk : kdOf o.op = .app y v) : isRefA ((s i).ev y) = true ∧ isSlA ((s i).ev v) = true := by
 have := FS H.pure o (by simpa using Array.mem_of_getElem? ho)
 rw [hk] at this
 simp only [pureK] at this
 rw [H.ev_stay ho (.inr (.inr ⟨v, .inl hk⟩)), H.ev_stay ho (.inr (.inr ⟨y, .inr hk⟩))] at this
 exact this
theorem DHyp.kind (H : DHyp P W ops s x ps) {i : Nat} {o : Oper} (ho : ops[i]? = some o) :
  ((s (i + 1)).h = (s i).h ∧ (s (i + 1)).nx = (s i).nx) ∨
  (∃ y id b, (kdOf o.op = .put y ∨ ∃ v, kdOf o.op = .app y v) ∧ idOf ((s i).ev y) = [id] ∧ ((s i).h id).lv = true ∧ (s (i + 1)).h = upd (s i).h id b ∧ (s (i + 1)).nx = (s i).nx) ∨
  (∃ e z, o.op = .alloc e ∧ guardA ops (s i) o = some true ∧ zeroA P e = some z ∧ z.el P e = true ∧ x i = .ptr (s i).nx 1 0 0 ∧ (s (i + 1)).h = upd (s i).h (s i).nx ⟨e, [z], true, false, true⟩ ∧ (s (i + 1)).nx = (s i).nx + 1) := by
 rcases H.run i o ho with ⟨hg, st1, h1, h2⟩ | ⟨hg, hx, h2⟩
 ·rw [h2, (AY ..).1, (AY ..).2]
  have hw := ((B8 H.ok).2.2.2 i o ho).1
  by_cases hc : (kdOf o.op).chg = true
  ·cases hk : kdOf o.op with
   | put y =>
    have h1' : evalOp P (s i) o.op = some (x i, st1) := by
     unfold OpStep at h1
     split at h1
     ·rename_i f args ts he; rw [he] at hk; cases f <;> simp [kdOf, isS] at hk
     ·exact h1
    obtain ⟨id, b, e1, e2, e3, _⟩ := L3 hk (fun _ _ => rfl) (fun _ _ => rfl) h1'
    exact .inr (.inl ⟨y, id, b, .inl rfl, e1, e2, by rw [e3], by rw [e3]⟩)
   | app y v =>
    have h1' : evalOp P (s i) o.op = some (x i, st1) := by
     unfold OpStep at h1
     split at h1
     ·rename_i f args ts he; rw [he] at hk; cases f <;> simp [kdOf, isS] at hk
     ·exact h1
    obtain ⟨id, b, e1, e2, e3, _⟩ := L4 hk (H.appP ho hk) (fun _ _ => rfl) (fun _ _ => rfl) h1'
    exact .inr (.inl ⟨y, id, b, .inr ⟨v, rfl⟩, e1, e2, by rw [e3], by rw [e3]⟩)
   | new =>
    obtain ⟨e, he⟩ := Pc hk
    rw [he] at h1
    have h1' : evalOp P (s i) (.alloc e) = some (x i, st1) := h1
    simp only [evalOp] at h1'
    obtain ⟨z, hz, h3⟩ := Option.bind_eq_some_iff.1 h1'
    split at h3
    ·rename_i hel
     simp only [Option.some.injEq, Prod.mk.injEq] at h3
     refine .inr (.inr ⟨e, z, he, hg, hz, hel, h3.1.symm, ?_, ?_⟩)
     ·rw [← h3.2]; rfl
     ·rw [← h3.2]; rfl
    ·cases h3
   | blind => rw [hk] at hc; cases hc
   | look y => rw [hk] at hc; cases hc
   | call as0 => rw [hk] at hc; cases hc
   | wild => rw [hk] at hc; cases hc
  ·exact .inl (Pd hw (by simpa using hc) (fun as0 hk => H.nw i o as0 ho hk) h1)
 ·rw [h2, (AY ..).1, (AY ..).2]; exact .inl ⟨rfl, rfl⟩
theorem DHyp.nx_mono (H : DHyp P W ops s x ps) {i : Nat} : ∀ m, i ≤ m → m ≤ ops.size → (s i).nx ≤ (s m).nx := by
 intro m him
 induction him with
 | refl => intro _; exact Nat.le_refl _
 | @step m him ih =>
  intro hm
  show _ ≤ (s (m + 1)).nx
  have ho : ops[m]? = some ops[m] := Array.getElem?_eq_getElem zO
  have := ih zO
  rcases H.kind ho with ⟨_, h⟩ | ⟨_, _, _, _, _, _, _, h⟩ | ⟨_, _, _, _, _, _, _, _, h⟩ <;> omega
theorem DHyp.lv (H : DHyp P W ops s x ps) : ∀ m, m ≤ ops.size → ∀ id, (s m).nx ≤ id → ((s m).h id).lv = false := by
 intro m
 induction m with
 | zero => intro _; exact H.dead
 | succ m ih =>
  intro hm id hid
  have ho : ops[m]? = some ops[m] := Array.getElem?_eq_getElem zO
  rcases H.kind ho with ⟨h1, h2⟩ | ⟨y, i, b, _, _, hl, h1, h2⟩ | ⟨e, z, _, _, _, _, _, h1, h2⟩
  ·rw [h1]; exact ih zO id zO
  ·rw [h1]
   by_cases h : id = i
   ·subst h
    have := ih zO id zO
    rw [hl] at this; cases this
   ·simp only [upd, h, if_false]; exact ih zO id zO
  ·rw [h1]
   have : id ≠ (s m).nx := by omega
   simp only [upd, this, if_false]; exact ih zO id zO
theorem DHyp.new_end (H : DHyp P W ops s x ps) {i : Nat} {o : Oper} (ho : ops[i]? = some o) {e : Nat} (he : o.op = .alloc e) {d : Tmp} (hd : o.dst = some d) (hg : guardA ops (s i) o = some true) : (s ops.size).fr d = x i := by
 have hi := DHyp.lt_of ho
 have hk : kdOf o.op = .new := by rw [he]; rfl
 have h1 : (s ops.size).fr d = (s (i + 1)).fr d := by
  refine ED H.run (fun j hij b hb hdd => ?_) _ zO (Nat.le_refl _)
  have := ((B8 H.ok).2.2.2 i o ho).2 d (by rw [hk, hd]; simp [tmpsK]) j zO b hb hdd
  omega
 rw [h1, (Bh (H.run i o ho)).1, hd]
 simp [St.put, upd]
theorem DHyp.chg (H : DHyp P W ops s x ps) {i id : Nat} (hi : i < ops.size) (hne : Hof ops s i id ≠ Hof ops s (i + 1) id) (hdst : ∀ (i : Nat) (o : Oper), ops[i]? = some o → kdOf o.op = .new → o.dst.isSome = true) :
  ∃ o, ops[i]? = some o ∧ (kdOf o.op).chg = true ∧ id ∈ idsO (s ops.size) o := by
 have ho : ops[i]? = some ops[i] := Array.getElem?_eq_getElem hi
 refine ⟨_, ho, ?_⟩
 rcases H.kind ho with ⟨h1, h2⟩ | ⟨y, j, b, hk, hy, hl, h1, h2⟩ | ⟨e, z, he, hg, _, _, hx, h1, h2⟩
 ·exact absurd (by simp only [Hof, h1, h2]) hne
 ·refine ⟨by rcases hk with hk | ⟨v, hk⟩ <;> rw [hk] <;> rfl, ?_⟩
  have : id = j := by
   refine Classical.byContradiction fun h => hne ?_
   simp only [Hof, h1, h2, upd, h, if_false]
  rcases hk with hk | ⟨v, hk⟩
  ·rw [idsO, hk, idsK, H.ev_stay ho (.inr (.inl hk)), hy, this]
   simp
  ·rw [idsO, hk, idsK, H.ev_stay ho (.inr (.inr ⟨v, .inl hk⟩)), hy, this]
   simp
 ·have hk : kdOf ops[i].op = .new := by rw [he]; rfl
  refine ⟨by rw [hk]; rfl, ?_⟩
  have : id = (s i).nx := by
   refine Classical.byContradiction fun h => hne ?_
   simp only [Hof, h1, h2, upd, h, if_false]
   by_cases hc : (s i).nx ≤ id ∧ id < (s ops.size).nx
   ·rw [if_pos hc, if_pos ⟨zO, hc.2⟩]
   ·rw [if_neg hc, if_neg zO]
  obtain ⟨d, hd⟩ := Option.isSome_iff_exists.1 (hdst i _ ho hk)
  have e1 : idsO (s ops.size) ops[i] = idOf ((s ops.size).fr d) := by simp only [idsO, hk, idsK, hd]
  rw [e1, H.new_end ho he hd hg, hx, this]
  simp [idOf]
theorem DHyp.step (H : DHyp P W ops s x ps) (hdst : ∀ (i : Nat) (o : Oper), ops[i]? = some o → kdOf o.op = .new → o.dst.isSome = true) {D : Nat → Prop} {st : St} (hD : Drawn2 ops s x D st) {i : Nat} {o : Oper} (ho : ops[i]? = some o) (hni : ¬ D i) (hready : ∀ k ∈ edgesB ops i, D k) :
  (∃ st', OneStep P W ops st o (x i) st' ∧ Drawn2 ops s x (fun j => D j ∨ j = i) st') ∨
  (∃ e z a, o.op = .alloc e ∧ guardA ops st o = some true ∧ zeroA P e = some z ∧ z.el P e = true ∧ x i = .ptr a 1 0 0 ∧ st.h a = Blk.dead ∧ (s 0).nx ≤ a ∧ a < st.nx ∧
   Drawn2 ops s x (fun j => D j ∨ j = i) (St.put { st with h := upd st.h a ⟨e, [z], true, false, true⟩ } o.dst (x i))) := by
 obtain ⟨c1, c2, c3, c4⟩ := B8 H.ok
 have hi := DHyp.lt_of ho
 have hD' : ∀ j, j < ops.size → bget (befs ops) i j = true → D j := by
  intro j hj hb
  obtain ⟨k, hk, hc⟩ := c2 i j hi hj hb
  have hDk := hready k hk
  rcases hc with rfl | hc
  ·exact hDk
  ·exact Ev c1 c2 hD.shut hD.lt k hDk j hj hc
 have hord : ∀ j, j < ops.size → j ≠ i → (j < i → bget (befs ops) i j = true) → (i < j → bget (befs ops) j i = true) → (D j ↔ j < i) := by
  intro j hj hne h1 h2
  constructor
  ·intro hDj
   rcases Nat.lt_or_ge j i with h | h
   ·exact h
   ·exact absurd (Ev c1 c2 hD.shut hD.lt j hDj i hi (h2 zO)) hni
  ·intro hlt; exact hD' j hj (h1 hlt)
 have swap : ∀ a b : Oper, tmpClash ops a b = true → ∀ d, b.dst = some d → True := fun _ _ _ _ _ => trivial
 have hlook : ∀ t, t ∈ o.looksAt ops → st.fr t = (s i).fr t := by
  intro t ht
  refine (hD.fr t).unique (EC H.run i zO t) fun j hw => ?_
  have hw' := hw
  simp only [writes] at hw'
  cases hb : ops[j]? with
  | none => rw [hb] at hw'; cases hw'
  | some b =>
   rw [hb] at hw'
   simp only [Option.bind_some] at hw'
   by_cases hji : j = i
   ·subst hji
    exact ⟨fun h => absurd h hni, fun h => by omega⟩
   ·refine hord j (DHyp.lt_of hb) hji (fun h => (c3 j i b o h hb ho).1 ?_) (fun h => (c3 i j o b h ho hb).1 ?_)
    ·simp only [tmpClash, hw']; simp [ht]
    ·simp only [tmpClash, hw']; simp [ht]
 have hev : ∀ y ∈ o.op.operands, st.ev y = (s i).ev y := by
  intro y hy
  cases y with
  | tmp t => exact hlook t (CV hy rfl)
  | const v => rfl
  | global g => rfl
  | func f => rfl
 have hguard : guardA ops st o = guardA ops (s i) o := by
  unfold guardA
  cases hg : o.guard with
  | none => rfl
  | some p =>
   obtain ⟨j, want⟩ := p
   simp only
   cases hd : (ops[j]?).bind (·.dst) with
   | none => rfl
   | some d =>
    simp only
    rw [hlook d (by simp only [Oper.looksAt, List.mem_append, hg, hd]; exact .inr zS)]
 have hmo : ∀ id, (kdOf o.op).tch = true → id ∈ idsO (s ops.size) o → ∀ j, j < ops.size → j ≠ i → Hof ops s j id ≠ Hof ops s (j + 1) id → (D j ↔ j < i) := by
  intro id ht hid j hj hne hch
  obtain ⟨b, hb, hb1, hb2⟩ := H.chg hj hch hdst
  refine hord j hj hne (fun h => ?_) (fun h => ?_)
  ·rcases (c3 j i b o h hb ho).2 (.inl ⟨hb1, ht⟩) with h' | h'
   ·exact h'
   ·exfalso
    have := FR H.apart _ h'
    simp only [apartAt, hb, ho] at this
    exact this id hb2 hid
  ·rcases (c3 i j o b h ho hb).2 (.inr ⟨ht, hb1⟩) with h' | h'
   ·exact h'
   ·exfalso
    have := FR H.apart _ h'
    simp only [apartAt, hb, ho] at this
    exact this id hid hb2
 have hrd : ∀ id, (kdOf o.op).tch = true → id ∈ idsO (s ops.size) o → st.h id = Hof ops s i id := by
  intro id ht hid
  obtain ⟨k, hk, hk1, hk2⟩ := hD.mem id
  rw [hk1]
  have seg : ∀ a b, a ≤ b → b ≤ ops.size → (∀ j, a ≤ j → j < b → Hof ops s j id = Hof ops s (j + 1) id) → Hof ops s a id = Hof ops s b id := by
   intro a b hab
   induction hab with
   | refl => intro _ _; rfl
   | @step m hm ih =>
    intro hb hs
    rw [ih zO (fun j h1 h2 => hs j h1 zO)]
    exact hs m hm zO
  rcases Nat.le_total k i with h | h
  ·refine seg k i h zO fun j h1 h2 => Classical.byContradiction fun hne => ?_
   have a1 := hk2 j zO hne
   have a2 := hmo id ht hid j zO zO hne
   have := a1.1 (a2.2 h2); omega
  ·refine (seg i k h hk fun j h1 h2 => Classical.byContradiction fun hne => ?_).symm
   have a1 := hk2 j zO hne
   by_cases hji : j = i
   ·subst hji; exact hni (a1.2 h2)
   ·have a2 := hmo id ht hid j zO hji hne
    have := a2.1 (a1.2 h2); omega
 have hshut : ∀ j, (D j ∨ j = i) → ∀ k ∈ edgesB ops j, D k ∨ k = i := by
  rintro j (hj | rfl) k hk
  ·exact .inl (hD.shut j hj k hk)
  ·exact .inl (hready k hk)
 have hlt : ∀ j, (D j ∨ j = i) → j < ops.size := by
  rintro j (hj | rfl)
  ·exact hD.lt j hj
  ·exact hi
 have hfr : ∀ (st' : St), st'.fr = (st.put o.dst (x i)).fr → ∀ t, Holds ops s x (fun j => D j ∨ j = i) t (st'.fr t) := by
  intro st' g2 t
  rw [g2]
  by_cases hw : writes ops i t
  ·have hd : o.dst = some t := by simpa [writes, ho] using hw
   refine .inl ⟨i, .inr rfl, hw, ?_, by rw [hd]; simp [St.put, upd]⟩
   rintro j (hj | rfl) hwj
   ·have hb' := hwj
    simp only [writes] at hb'
    cases hb : ops[j]? with
    | none => rw [hb] at hb'; cases hb'
    | some b =>
     rw [hb] at hb'
     simp only [Option.bind_some] at hb'
     have hne : j ≠ i := fun e => hni (e ▸ hj)
     have := (hord j (DHyp.lt_of hb) hne (fun h => (c3 j i b o h hb ho).1 (by simp [tmpClash, hb', hd])) (fun h => (c3 i j o b h ho hb).1 (by simp [tmpClash, hb', hd]))).1 hj
     omega
   ·exact Nat.le_refl _
  ·have hv : (st.put o.dst (x i)).fr t = st.fr t := by
    cases hd : o.dst with
    | none => rfl
    | some d =>
     have hne : t ≠ d := fun e => hw (by simp [writes, ho, hd, e])
     simp [St.put, upd, hne]
   rw [hv]
   rcases hD.fr t with ⟨j, a1, a2, a3, a4⟩ | ⟨a1, a2⟩
   ·refine .inl ⟨j, .inl a1, a2, ?_, a4⟩
    rintro j' (h | rfl) hw'
    ·exact a3 j' h hw'
    ·exact absurd hw' hw
   ·refine .inr ⟨?_, a2⟩
    rintro j (h | rfl) hw'
    ·exact a1 j h hw'
    ·exact hw hw'
 have hmem : ∀ h' : Nat → Blk, (∀ id, Hof ops s i id ≠ Hof ops s (i + 1) id → h' id = Hof ops s (i + 1) id) → (∀ id, Hof ops s i id = Hof ops s (i + 1) id → h' id = st.h id) →
   ∀ id, ∃ k, k ≤ ops.size ∧ h' id = Hof ops s k id ∧ ∀ j, j < ops.size → Hof ops s j id ≠ Hof ops s (j + 1) id → ((D j ∨ j = i) ↔ j < k) := by
  intro h' g1 g2 id
  by_cases hc : Hof ops s i id = Hof ops s (i + 1) id
  ·obtain ⟨k, hk, hk1, hk2⟩ := hD.mem id
   refine ⟨k, hk, (g2 id hc).trans hk1, fun j hj hne => ?_⟩
   have hji : j ≠ i := fun e => hne (e ▸ hc)
   rw [← hk2 j hj hne]
   exact ⟨fun h => h.elim (fun h => h) (fun e => absurd e hji), .inl⟩
  ·refine ⟨i + 1, zO, g1 id hc, fun j hj hne => ?_⟩
   by_cases hji : j = i
   ·subst hji; exact ⟨fun _ => by omega, fun _ => .inr rfl⟩
   ·obtain ⟨b, hb, hb1, hb2⟩ := H.chg hi hc hdst
    rw [ho] at hb; cases hb
    have ht : (kdOf o.op).tch = true := by
     cases hk : kdOf o.op <;> rw [hk] at hb1 <;> first | rfl | cases hb1
    have := hmo id ht hb2 j hj hji hne
    constructor
    ·rintro (h | h)
     ·have := this.1 h; omega
     ·exact absurd h hji
    ·intro h; exact .inl (this.2 zO)
 have hlive : ∀ id, ((s i).h id).lv = true → Hof ops s i id = (s i).h id ∧ id < (s i).nx := by
  intro id hl
  have : id < (s i).nx := by
   rcases Nat.lt_or_ge id (s i).nx with h | h
   ·exact h
   ·rw [H.lv i zO id h] at hl; cases hl
  exact ⟨by simp only [Hof]; rw [if_neg zO], this⟩
 have hN : (s (i + 1)).nx ≤ (s ops.size).nx := H.nx_mono _ zO (Nat.le_refl _)
 have hsame : ∀ (st' : St), st'.fr = (st.put o.dst (x i)).fr → st'.h = st.h → st'.nx = st.nx → ((s (i + 1)).h = (s i).h ∧ (s (i + 1)).nx = (s i).nx) → Drawn2 ops s x (fun j => D j ∨ j = i) st' := by
  intro st' g1 g2 g3 g4
  have hno : ∀ id, Hof ops s i id = Hof ops s (i + 1) id := fun id => by simp only [Hof, g4.1, g4.2]
  exact ⟨hshut, hlt, hfr st' g1, by rw [g3]; exact hD.nx, hmem st'.h (fun id h => absurd (hno id) h) (fun id _ => by rw [g2])⟩
 rcases H.run i o ho with ⟨hg, st1, h1, h2⟩ | ⟨hg, hx, h2⟩
 ·have hw := (c4 i o ho).1
  cases hk : kdOf o.op with
  | wild => rw [hk] at hw; cases hw
  | blind =>
   left
   have hs : isS o.op = false := Pb hk
   have h1' : evalOp P (s i) o.op = some (x i, st1) := by
    unfold OpStep at h1
    split at h1
    ·rename_i f args ts he; rw [he] at hs; cases f <;> simp [isS] at hs
    ·exact h1
   obtain ⟨k1, k2⟩ := EB P (s i) st st1 (x i) o.op hs hev h1'
   have hstep : OpStep P W st o.op (x i) st := by
    unfold OpStep
    split
    ·rename_i f args ts he; rw [he] at hs; cases f <;> simp [isS] at hs
    ·exact k2
   refine ⟨st.put o.dst (x i), .inl ⟨by rw [hguard]; exact hg, st, hstep, rfl⟩, hsame _ rfl (AY ..).1 (AY ..).2 ?_⟩
   rw [h2, (AY ..).1, (AY ..).2, k1]; exact ⟨rfl, rfl⟩
  | look y =>
   left
   have h1' : evalOp P (s i) o.op = some (x i, st1) := by
    unfold OpStep at h1
    split at h1
    ·rename_i f args ts he; rw [he] at hk; cases f <;> simp [kdOf, isS] at hk
    ·exact h1
   have hids : idsO (s ops.size) o = idOf ((s i).ev y) := by simp only [idsO, hk, idsK, H.ev_stay ho (.inl hk)]
   have ht : (kdOf o.op).tch = true := by rw [hk]; rfl
   obtain ⟨_, _, hl⟩ := JY hk (fun _ _ => rfl) (fun _ _ => rfl) h1'
   obtain ⟨k1, k2, _⟩ := JY (st2 := st) hk hev (fun id hid => by rw [hrd id ht (by rw [hids]; exact hid), (hlive id (hl id hid)).1]) h1'
   have hstep : OpStep P W st o.op (x i) st := by
    unfold OpStep
    split
    ·rename_i f args ts he; rw [he] at hk; cases f <;> simp [kdOf, isS] at hk
    ·exact k2
   refine ⟨st.put o.dst (x i), .inl ⟨by rw [hguard]; exact hg, st, hstep, rfl⟩, hsame _ rfl (AY ..).1 (AY ..).2 ?_⟩
   rw [h2, (AY ..).1, (AY ..).2, k1]; exact ⟨rfl, rfl⟩
  | put y =>
   left
   have h1' : evalOp P (s i) o.op = some (x i, st1) := by
    unfold OpStep at h1
    split at h1
    ·rename_i f args ts he; rw [he] at hk; cases f <;> simp [kdOf, isS] at hk
    ·exact h1
   have hids : idsO (s ops.size) o = idOf ((s i).ev y) := by simp only [idsO, hk, idsK, H.ev_stay ho (.inr (.inl hk))]
   have ht : (kdOf o.op).tch = true := by rw [hk]; rfl
   obtain ⟨id0, b0, e1, e2, e3, _⟩ := L3 hk (fun _ _ => rfl) (fun _ _ => rfl) h1'
   obtain ⟨id, b, q1, q2, q3, q4⟩ := L3 (st2 := st) hk hev (fun id hid => by
    have : id = id0 := by rw [e1] at hid; simpa using hid
    subst this
    rw [hrd id ht (by rw [hids]; exact hid), (hlive id e2).1]) h1'
   have hstep : OpStep P W st o.op (x i) { st with h := upd st.h id b } := by
    unfold OpStep
    split
    ·rename_i f args ts he; rw [he] at hk; cases f <;> simp [kdOf, isS] at hk
    ·exact q4
   refine ⟨St.put { st with h := upd st.h id b } o.dst (x i), .inl ⟨by rw [hguard]; exact hg, _, hstep, rfl⟩, hshut, hlt, hfr _ (by cases o.dst <;> rfl), by rw [(AY ..).2]; exact hD.nx, ?_⟩
   have hh1 : (s (i + 1)).h = upd (s i).h id b ∧ (s (i + 1)).nx = (s i).nx := by rw [h2, (AY ..).1, (AY ..).2, q3]; exact ⟨rfl, rfl⟩
   have hlid := (hlive id q2).2
   rw [(AY ..).1]
   refine hmem _ (fun j hne => ?_) (fun j heq => ?_)
   ·have : j = id := Classical.byContradiction fun h => hne (by simp only [Hof, hh1.1, hh1.2, upd, h, if_false])
    subst this
    simp only [Hof, hh1.1, hh1.2, upd, if_true]
    rw [if_neg zO]
   ·by_cases h : j = id
    ·subst h
     have : st.h j = Hof ops s i j := hrd j ht (by rw [hids, q1]; simp)
     rw [this, heq]
     simp only [Hof, hh1.1, hh1.2, upd, if_true]
     rw [if_neg zO]
    ·simp only [upd, h, if_false]
  | app y v =>
   left
   have h1' : evalOp P (s i) o.op = some (x i, st1) := by
    unfold OpStep at h1
    split at h1
    ·rename_i f args ts he; rw [he] at hk; cases f <;> simp [kdOf, isS] at hk
    ·exact h1
   have hids : idsO (s ops.size) o = idOf ((s i).ev y) := by simp only [idsO, hk, idsK, H.ev_stay ho (.inr (.inr ⟨v, .inl hk⟩))]
   have ht : (kdOf o.op).tch = true := by rw [hk]; rfl
   obtain ⟨id0, b0, e1, e2, e3, _⟩ := L4 hk (H.appP ho hk) (fun _ _ => rfl) (fun _ _ => rfl) h1'
   obtain ⟨id, b, q1, q2, q3, q4⟩ := L4 (st2 := st) hk (H.appP ho hk) hev (fun id hid => by
    have : id = id0 := by rw [e1] at hid; simpa using hid
    subst this
    rw [hrd id ht (by rw [hids]; exact hid), (hlive id e2).1]) h1'
   have hstep : OpStep P W st o.op (x i) { st with h := upd st.h id b } := by
    unfold OpStep
    split
    ·rename_i f args ts he; rw [he] at hk; cases f <;> simp [kdOf, isS] at hk
    ·exact q4
   refine ⟨St.put { st with h := upd st.h id b } o.dst (x i), .inl ⟨by rw [hguard]; exact hg, _, hstep, rfl⟩, hshut, hlt, hfr _ (by cases o.dst <;> rfl), by rw [(AY ..).2]; exact hD.nx, ?_⟩
   have hh1 : (s (i + 1)).h = upd (s i).h id b ∧ (s (i + 1)).nx = (s i).nx := by rw [h2, (AY ..).1, (AY ..).2, q3]; exact ⟨rfl, rfl⟩
   have hlid := (hlive id q2).2
   rw [(AY ..).1]
   refine hmem _ (fun j hne => ?_) (fun j heq => ?_)
   ·have : j = id := Classical.byContradiction fun h => hne (by simp only [Hof, hh1.1, hh1.2, upd, h, if_false])
    subst this
    simp only [Hof, hh1.1, hh1.2, upd, if_true]
    rw [if_neg zO]
   ·by_cases h : j = id
    ·subst h
     have : st.h j = Hof ops s i j := hrd j ht (by rw [hids, q1]; simp)
     rw [this, heq]
     simp only [Hof, hh1.1, hh1.2, upd, if_true]
     rw [if_neg zO]
    ·simp only [upd, h, if_false]
  | call as0 =>
   left
   have hcl : ∃ g args ts, o.op = .call { callee := .value (.func g), args := args, argTypes := ts } ∧ as0 = args.toList := by
    unfold kdOf at hk
    split at hk <;> first | (cases hk; done) | (split at hk <;> cases hk; done) | skip
    rename_i g args ts he
    cases hk
    exact ⟨g, args, ts, he, rfl⟩
   obtain ⟨g, args, ts, he, rfl⟩ := hcl
   have hpu := FS H.pure o (by simpa using Array.mem_of_getElem? ho)
   rw [hk] at hpu
   simp only [pureK] at hpu
   have hst : args.toList.map (s ops.size).ev = args.toList.map (s i).ev := by
    refine List.map_congr_left fun y hy => ?_
    cases y with
    | tmp t => exact JZ (H.stay ho (by rw [hk]; simp) (by rw [hk]; simp only [tmpsK, List.mem_filterMap]; exact ⟨.tmp t, hy, rfl⟩))
    | const v => rfl
    | global g => rfl
    | func f => rfl
   have hm : args.toList.map st.ev = args.toList.map (s i).ev := List.map_congr_left fun y hy => hev y (by rw [he]; simp [Op.operands, Call.operands]; exact .inr (by simpa using hy))
   rw [he] at h1
   obtain ⟨g', first, cap, w1, w2, w3, w4, w5⟩ := h1
   have w1' : AV.fn (.func g) [] [] = AV.fn (.func g') first cap := w1
   injection w1' with x1 x2 x3
   injection x1 with x1
   subst x1; subst x2; subst x3
   have hW : isW W (.call { callee := .value (.func g), args := args, argTypes := ts }) = false := by have := H.nw i o _ ho hk; rwa [he] at this
   have hin := w5 hW (by simp only [List.nil_append, List.append_nil]; rw [← hst]; exact hpu) st.h st.nx
   simp only [List.nil_append, List.append_nil] at hin
   rw [← hm] at hin
   have hstep : OpStep P W st o.op (x i) st := by
    rw [he]
    refine ⟨g, [], [], rfl, w2, ?_, fun _ => ⟨rfl, rfl⟩, fun _ _ h nx => ?_⟩
    ·simp only [List.nil_append, List.append_nil]
     exact ⟨rfl, hin.2⟩
    ·have := w5 hW (by simp only [List.nil_append, List.append_nil]; rw [← hst]; exact hpu) h nx
     simp only [List.nil_append, List.append_nil] at this ⊢
     rw [← hm] at this
     exact ⟨rfl, this.2⟩
   refine ⟨st.put o.dst (x i), .inl ⟨by rw [hguard]; exact hg, st, hstep, rfl⟩, hsame _ rfl (AY ..).1 (AY ..).2 ?_⟩
   rw [h2, (AY ..).1, (AY ..).2]; exact w4 hW
  | new =>
   right
   rcases H.kind ho with ⟨k1, k2⟩ | ⟨y, _, _, k1, _⟩ | ⟨e, z, he, _, hz, hel, hx, k1, k2⟩
   ·exfalso
    obtain ⟨e, he⟩ := Pc hk
    rw [he] at h1
    have h1' : evalOp P (s i) (.alloc e) = some (x i, st1) := h1
    simp only [evalOp] at h1'
    obtain ⟨z, hz, h3⟩ := Option.bind_eq_some_iff.1 h1'
    split at h3
    ·simp only [Option.some.injEq, Prod.mk.injEq] at h3
     rw [h2, (AY ..).2, ← h3.2] at k2
     simp [St.new] at k2
    ·cases h3
   ·rcases k1 with k1 | ⟨v, k1⟩ <;> rw [hk] at k1 <;> cases k1
   ·have ht : (kdOf o.op).tch = true := by rw [hk]; rfl
    obtain ⟨d, hd⟩ := Option.isSome_iff_exists.1 (hdst i o ho hk)
    have hids : (s i).nx ∈ idsO (s ops.size) o := by
     have e1 : idsO (s ops.size) o = idOf ((s ops.size).fr d) := by simp only [idsO, hk, idsK, hd]
     rw [e1, H.new_end ho he hd hg, hx]
     simp [idOf]
    have h0 := H.nx_mono (i := 0) i zO zO
    have hdead : Hof ops s i (s i).nx = Blk.dead := by simp only [Hof]; rw [if_pos zO]
    refine ⟨e, z, (s i).nx, he, by rw [hguard]; exact hg, hz, hel, hx, by rw [hrd _ ht hids, hdead], h0, by rw [hD.nx]; omega, hshut, hlt, hfr _ (by cases o.dst <;> rfl), by rw [(AY ..).2]; exact hD.nx, ?_⟩
    rw [(AY ..).1]
    refine hmem _ (fun j hne => ?_) (fun j heq => ?_)
    ·have : j = (s i).nx := by
      refine Classical.byContradiction fun h => hne ?_
      simp only [Hof, k1, k2, upd, h, if_false]
      by_cases hc : (s i).nx ≤ j ∧ j < (s ops.size).nx
      ·rw [if_pos hc, if_pos ⟨zO, hc.2⟩]
      ·rw [if_neg hc, if_neg zO]
     subst this
     simp only [Hof, k1, k2, upd, if_true]
     rw [if_neg zO]
    ·by_cases h : j = (s i).nx
     ·subst h
      rw [hdead] at heq
      simp only [Hof, k1, k2, upd, if_true] at heq
      rw [if_neg zO] at heq
      simp [Blk.dead] at heq
     ·simp only [upd, h, if_false]
 ·left
  refine ⟨st.put o.dst (.tup []), .inr ⟨by rw [hguard]; exact hg, hx, rfl⟩, hsame _ (by rw [hx]) (AY ..).1 (AY ..).2 ?_⟩
  rw [h2, (AY ..).1, (AY ..).2]; exact ⟨rfl, rfl⟩
theorem DHyp.finish (H : DHyp P W ops s x ps) {D : Nat → Prop} {st : St} (hD : Drawn2 ops s x D st) (hall : ∀ i, i < ops.size → D i) : st = s ops.size := by
 have hf : st.fr = (s ops.size).fr := by
  funext t
  refine (hD.fr t).unique (EC H.run ops.size (Nat.le_refl _) t) fun i _ => ⟨hD.lt i, fun h => hall i h⟩
 have hh : st.h = (s ops.size).h := by
  funext id
  obtain ⟨k, hk, h1, h2⟩ := hD.mem id
  have seg : ∀ b, k ≤ b → b ≤ ops.size → Hof ops s k id = Hof ops s b id := by
   intro b hb
   induction hb with
   | refl => intro _; rfl
   | @step m hm ih =>
    intro AS
    have hm'' : m + 1 ≤ ops.size := AS
    have hkm : k ≤ m := hm
    rw [ih zO]
    refine Classical.byContradiction fun hne => ?_
    have := (h2 m zO hne).1 (hall m zO); omega
  rw [h1, seg _ hk (Nat.le_refl _)]
  simp only [Hof]
  rw [if_neg zO]
 cases hst : st with
 | mk fr h nx =>
  have hn := hD.nx
  rw [hst] at hf hh hn
  simp only at hf hh hn
  rw [hf, hh, hn]
end
section
variable {P : Program} {W : FuncId → Bool} {ops : Array Oper} {s : Nat → St} {x : Nat → AV} {ps : List (Nat × Nat)} {Q : Exit → Act → World → Prop} {n : Nat}
theorem Uw {E w0 : Env} {a : Nat} (hE : Ok P E) (ha : E.h a = Blk.dead) (hlt : a < E.nx) (h0 : w0.nx ≤ a) (hgo : Goes P w0 E) (c : Array Value) (e : Nat) (y : AV) (v : Value) (hr : rep P E y v) (hc : CellsAt c 0 (szT P e) [v])
  (hcl : y.el P e = true) (hsz : 1 * szT P e ≤ c.size) :
  let E' : Env := ⟨pushW E.w (.cells c e (0, 0)), E.I, upd E.m a ⟨E.w.heap.size, 0, 1⟩, upd E.h a ⟨e, [y], true, false, true⟩, E.nx⟩
  E.Le E' ∧ Ok P E' ∧ Goes P w0 E' := by
 intro E'
 have hLe : E.Le E' := by
  refine ⟨Nat.le_refl _, fun b hb => ⟨hb, A6 (hE.imm b hb)⟩, fun id hid => ?_, fun id hid n hn h1 h2 => ?_⟩
  ·by_cases h : id = a
   ·subst h; rw [ha]; simp [Blk.dead]
   ·simp [E', upd, h]
  ·by_cases h : id = a
   ·subst h
    rw [ha] at hn
    simp [E', upd] at h2
    simp [Blk.dead] at hn
    omega
   ·simp only [E', upd, h, if_false] at h1 h2 ⊢; exact ⟨h1, h2, by trivial, by trivial⟩
 have hmb : ∀ id, (E.h id).lv = true → (E.m id).b < E.w.heap.size := fun id h => by
  obtain ⟨c, vs, h1, _⟩ := (hE.blk id h).at_; exact BC h1
 refine ⟨hLe, ⟨fun id hlv => ?_, fun i j hi hj hij => ?_, fun b hb => Nat.lt_of_lt_of_le (hE.imm b hb) (by simp [E', pushW]), hE.tab.le hLe⟩, ?_⟩
 ·by_cases hid : id = a
  ·subst hid
   refine ⟨by simpa [E'] using hlt, by simp [E', upd], by simp [E', upd], by simp [E', upd], by simpa [E', upd] using hcl, ?_, ⟨c, [v], ?_, ?_, ?_, ?_⟩⟩
   ·simp only [E', upd, if_true]; exact fun h => Nat.lt_irrefl _ (hE.imm _ h)
   ·simp only [E', upd, if_true]; exact Es
   ·simp only [E', upd, if_true]; exact Ax hLe _ _ (by simp [repL, hr])
   ·simpa [E', upd] using hc
   ·simpa [E', upd] using hsz
  ·simp only [E', upd, hid, if_false] at hlv
   refine (hE.blk id hlv).move hLe (by simp [E', upd, hid]) (by simp [E', upd, hid]) (A6 (hmb id hlv)) (hE.blk id hlv).dark
 ·by_cases h1 : i = a <;> by_cases h2 : j = a
  ·rw [h1, h2]
  ·simp only [E', upd, h1, h2, if_true, if_false] at hi hj hij
   exact absurd (hmb j hj) zO
  ·simp only [E', upd, h1, h2, if_true, if_false] at hi hj hij
   exact absurd (hmb i hi) zO
  ·simp only [E', upd, h1, h2, if_false] at hi hj hij
   exact hE.inj i j hi hj hij
 ·refine ⟨hgo.os, hgo.tape, hgo.output, Nat.le_trans hgo.size (by simp [E', pushW]), fun b hb hno => ?_, fun id hlv c' hc' => ?_, fun id hlv => ?_, fun b hb => hgo.dark b hb, hgo.nx, fun id hid => ?_⟩
  ·exact (A6 (Nat.lt_of_lt_of_le hb hgo.size)).trans (hgo.keep b hb hno)
  ·obtain ⟨c2, k1, k2, k3⟩ := hgo.part id hlv c' hc'
   exact ⟨c2, (A6 (BC k1)).trans k1, k2, k3⟩
  ·by_cases hid : id = a
   ·subst hid
    exact .inr ⟨by simp [E', upd]; exact hgo.size, .inl h0⟩
   ·simp only [E', upd, hid, if_false, Env.lim] at hlv ⊢
    exact hgo.locs id hlv
  ·have hid' : id ≠ a := by omega
   simp only [E', upd, hid', if_false]; exact hgo.grs id hid
theorem OM (H : DHyp P W ops s x ps) (hdst : ∀ (i : Nat) (o : Oper), ops[i]? = some o → kdOf o.op = .new → o.dst.isSome = true) (hd : ∀ o ∈ ops, ∀ d, o.dst = some d → d < n) {w0 : Env} (hw0 : w0.nx = (s 0).nx)
  (hQ : ∀ a' E', Rel P E' (s ops.size) a' → a'.tmps.size = n → a'.defers = [] → w0.Le E' → Goes P w0 E' → Q .normal a' E'.w) : ∀ (fuel : Nat) (listed : Array Bool) (a : Act) (E : Env) (st : St), listed.size = ops.size →
  listed.toList.count false ≤ fuel → Rel P E st a → a.tmps.size = n → a.defers = [] → Ok P w0 → w0.Le E → Goes P w0 E → Drawn2 ops s x (Lis listed) st → wpAny P .any ops Q fuel listed a E.w := by
 intro fuel
 obtain ⟨c1, c2, c3, c4⟩ := B8 H.ok
 have all2 : ∀ {listed : Array Bool}, listed.size = ops.size → Region.ready .any ops listed = [] → ∀ i, i < ops.size → Lis listed i := by
  intro listed hs h i
  induction i using Nat.strongRecOn with
  | _ i ih =>
   intro hi
   by_cases hl : Lis listed i
   ·exact hl
   ·have : i ∈ Region.ready .any ops listed := (DI hs).2 ⟨hi, hl, fun k hk => ih k (c1 i hi k hk) (Nat.lt_trans (c1 i hi k hk) hi)⟩
    rw [h] at this; simp at this
 have done : ∀ (listed : Array Bool) (a : Act) (E : Env) (st : St), listed.size = ops.size → Region.ready .any ops listed = [] → Rel P E st a → a.tmps.size = n → a.defers = [] → w0.Le E → Goes P w0 E → Drawn2 ops s x (Lis listed) st → Q .normal a E.w := by
  intro listed a E st hs hr hR hn hdf hle hgo hD
  have := H.finish hD (all2 hs hr)
  subst this
  exact hQ a E hR hn hdf hle hgo
 induction fuel with
 | zero =>
  intro listed a E st hs hc hR hn hdf hok0 hle hgo hD
  have hr : Region.ready .any ops listed = [] := by
   rw [List.eq_nil_iff_forall_not_mem]
   intro i hi
   obtain ⟨h1, h2, _⟩ := (DI hs).1 hi
   have h0 : listed.toList.count false = 0 := by omega
   rw [List.count_eq_zero] at h0
   refine h0 ?_
   unfold Lis at h2
   rw [Array.getD_eq_getD_getElem?, Array.getElem?_eq_getElem zO] at h2
   have : listed[i] = false := by simpa using h2
   rw [← this]; exact Array.getElem_mem_toList _
  exact ⟨hr, done listed a E st hs hr hR hn hdf hle hgo hD⟩
 | succ fuel ih =>
  intro listed a E st hs hc hR hn hdf hok0 hle hgo hD
  refine ⟨fun hr => done listed a E st hs hr hR hn hdf hle hgo hD, fun i hi => ?_⟩
  obtain ⟨h1, h2, h3⟩ := (DI hs).1 hi
  have ho : ops[i]? = some ops[i] := Array.getElem?_eq_getElem h1
  have hL : ∀ j, Lis (listed.setIfInBounds i true) j ↔ Lis listed j ∨ j = i := by
   intro j
   unfold Lis
   rw [Array.getD_eq_getD_getElem?, Array.getD_eq_getD_getElem?]
   by_cases hji : j = i
   ·subst hji
    rw [Array.getElem?_setIfInBounds_self, if_pos zO]
    simp
   ·rw [Array.getElem?_setIfInBounds_ne (fun e => hji e.symm)]
    simp [hji]
  have hL' : (fun j => Lis listed j ∨ j = i) = Lis (listed.setIfInBounds i true) := by
   funext j; exact propext (hL j).symm
  have hcount : (listed.setIfInBounds i true).toList.count false ≤ fuel := by
   have hfalse : listed.toList[i]'(by simp; omega) = false := by
    unfold Lis at h2
    rw [Array.getD_eq_getD_getElem?, Array.getElem?_eq_getElem zO] at h2
    simpa using h2
   rw [Array.toList_setIfInBounds, List.count_set zW, hfalse]
   have e1 : (if (false == false) = true then 1 else 0) = 1 := rfl
   have e2 : (if (true == false) = true then 1 else 0) = 0 := rfl
   rw [e1, e2]; omega
  rcases H.step hdst hD ho h2 h3 with ⟨st', g1, g2⟩ | ⟨e, z, b, he, hg, hz, hel, hx, hdead, hb0, hbn, g2⟩
  ·refine Dm ho hR (fun d hdd => by rw [hn]; exact hd _ (Array.mem_of_getElem? ho) d hdd) g1 _ fun a' E' k1 k2 k3 k4 k5 => ?_
   refine ih _ a' E' st' (by simpa using hs) hcount k1 (by rw [k2, hn]) (by rw [k3, hdf]) hok0 (hle.trans k4) (hgo.trans hok0 k5) ?_
   rw [← hL']; exact g2
  ·obtain ⟨v, hv, rfl⟩ := DF hz
   have hrv := CL (P := P) (E := E) v
   have hsz := CF hrv hel
   obtain ⟨q1, q2, q3⟩ := Uw (w0 := w0) hR.ok (by rw [← hR.h]; exact hdead) (by rw [← hR.nx]; exact hbn) (by rw [hw0]; exact hb0) hgo v.cells e (ofVal v) v hrv (CellsAt.one v _ hsz) hel (by simp [hsz])
   obtain ⟨E', hE'⟩ : ∃ E' : Env, E' = ⟨pushW E.w (.cells v.cells e (0, 0)), E.I, upd E.m b ⟨E.w.heap.size, 0, 1⟩, upd E.h b ⟨e, [ofVal v], true, false, true⟩, E.nx⟩ := ⟨_, rfl⟩
   rw [← hE'] at q1 q2 q3
   have hrun : (execOp a.eval ops[i]).run P E.w = .ok (.value (.pointer (some ⟨E.w.heap.size, 0, none⟩))) E'.w := by
    unfold execOp
    rw [he, hE']
    simp [Instr.alloc, DR hv, newVar, Bg]
   unfold wpOp
   rw [ho]
   simp only [EA hR.fr hg, if_true]
   refine .inl ?_
   unfold Oper.wp
   rw [hrun]
   refine ih _ (a.put ops[i].dst (.pointer (some ⟨E.w.heap.size, 0, none⟩))) E' _ (by simpa using hs) hcount ⟨q2, ?_, ?_, ?_⟩ (by rw [(Dr ..).1, hn]) (by rw [(Dr ..).2, hdf]) hok0 (hle.trans q1) q3 (by rw [← hL']; exact g2)
   ·rw [(AY ..).1, hE']; simp only [hR.h]
   ·rw [(AY ..).2, hE']; exact hR.nx
   ·refine JV (fun t => ?_) ?_ (fun d hdd => by rw [hn]; exact hd _ (Array.mem_of_getElem? ho) d hdd)
    ·exact CR q1 _ _ (hR.fr t)
    ·rw [hx, hE']
     simp only [rep]
     exact ⟨by rw [← hR.nx]; exact hbn, by simp [upd], _, rfl, fun _ _ => by simp [upd]⟩
theorem SB {E : Env} (hE : Ok P E) (N : Nat) (hN : E.nx ≤ N) :
  let E1 : Env := ⟨E.w, E.I, E.m, fun id => if E.nx ≤ id ∧ id < N then Blk.dead else E.h id, N⟩
  E.Le E1 ∧ Ok P E1 ∧ Goes P E E1 := by
 intro E1
 have old : ∀ id, id < E.nx → E1.h id = E.h id := fun id h => by simp only [E1]; rw [if_neg zO]
 have lv : ∀ id, (E1.h id).lv = true → (E.h id).lv = true ∧ id < E.nx ∧ E1.h id = E.h id := by
  intro id h
  by_cases hc : E.nx ≤ id ∧ id < N
  ·simp only [E1, hc, and_self, if_true, Blk.dead] at h; cases h
  ·have e : E1.h id = E.h id := by simp only [E1]; rw [if_neg hc]
   rw [e] at h
   exact ⟨h, (hE.blk id h).lt, e⟩
 have hLe : E.Le E1 := ⟨hN, fun b hb => ⟨hb, rfl⟩, fun id hid => by rw [old id hid]; exact Nat.le_refl _, fun id hid n _ h1 h2 => by rw [old id hid] at h1 h2 ⊢; exact ⟨h1, h2, rfl, rfl⟩⟩
 refine ⟨hLe, ⟨fun id h => ?_, fun i j hi hj e => hE.inj i j (lv i hi).1 (lv j hj).1 e, hE.imm, hE.tab.le hLe⟩, ⟨rfl, rfl, rfl, Nat.le_refl _, fun _ _ _ => rfl, fun _ _ c h => ⟨c, h, rfl, fun _ _ => rfl⟩, fun id h => ?_, fun _ h => .inl h, hN, fun id hid => by rw [old id hid]⟩⟩
 ·obtain ⟨h1, h2, h3⟩ := lv id h
  exact (hE.blk id h1).move hLe h3 rfl rfl (hE.blk id h1).dark
 ·obtain ⟨h1, h2, h3⟩ := lv id h
  exact .inl ⟨h1, rfl, by rw [h3], by simp only [Env.lim, h3]; rfl⟩
theorem Wz {E : Env} {a : Act} (H : DHyp P W ops s x ps) (hdst : ∀ (i : Nat) (o : Oper), ops[i]? = some o → kdOf o.op = .new → o.dst.isSome = true) (hd : ∀ o ∈ ops, ∀ d, o.dst = some d → d < n) {w0 : Env} (hok0 : Ok P w0) (hw0 : w0.nx = (s 0).nx) (hle0 : w0.Le E) (hgo0 : Goes P w0 E)
  (hR : Rel P E (s 0) a) (hn : a.tmps.size = n) (hdf : a.defers = [])
  (hQ : ∀ a' E', Rel P E' (s ops.size) a' → a'.tmps.size = n → a'.defers = [] → w0.Le E' → Goes P w0 E' → Q .normal a' E'.w) : wpAny P .any ops Q ops.size (Array.replicate ops.size false) a E.w := by
 have hN := H.nx_mono (i := 0) ops.size (Nat.zero_le _) (Nat.le_refl _)
 obtain ⟨r1, r2, r3⟩ := SB hR.ok (s ops.size).nx (by rw [← hR.nx]; exact hN)
 have hno : ∀ i, ¬ Lis (Array.replicate ops.size false) i := by
  intro i hi
  unfold Lis at hi
  rw [Array.getD_eq_getD_getElem?, Array.getElem?_replicate] at hi
  split at hi <;> simp at hi
 refine OM H hdst hd hw0 hQ ops.size (Array.replicate ops.size false) a ⟨E.w, E.I, E.m, fun id => if E.nx ≤ id ∧ id < (s ops.size).nx then Blk.dead else E.h id, (s ops.size).nx⟩
  ⟨(s 0).fr, Hof ops s 0, (s ops.size).nx⟩ zS zS ⟨r2, ?_, rfl, hR.fr.mono r1⟩ hn hdf hok0 (hle0.trans r1) (hgo0.trans hok0 r3) ?_
 ·funext id
  simp only [Hof, hR.nx, hR.h]
 ·exact ⟨fun j hj => absurd hj (hno j), fun j hj => absurd hj (hno j), fun t => .inr ⟨fun i hi => absurd hi (hno i), rfl⟩, rfl, fun id => ⟨0, Nat.zero_le _, rfl, fun i _ _ => ⟨fun h => absurd h (hno i), fun h => absurd h zO⟩⟩⟩
end
def isLk : List (Nat × Nat) → Bool
 | (a, b) :: _ => a == b
 | [] => false
def sameL (h0 h : Nat → Blk) : List Nat → Prop
 | [] => True
 | i :: is => h i = h0 i ∧ sameL h0 h is
def floatK (P : Program) (h0 : Nat → Blk) (st : St) (dst : Option Tmp) (o : Op) : Prop :=
 match o with
 | .call { callee := .value (.func g), args := as0, argTypes := _ } => match dst with
  | some d => InOk P st g (as0.toList.map st.ev) (st.fr d) st
  | none => False
 | o => sameL h0 st.h (idsK st dst (kdOf o))
def lookAt (P : Program) (h0 : Nat → Blk) (st : St) (ops : Array Oper) (q : Nat × Nat) : Prop :=
 match ops[q.1]? with
 | some a => floatK P h0 st a.dst a.op
 | none => True
def lookL (P : Program) (h0 : Nat → Blk) (st : St) (ops : Array Oper) : List (Nat × Nat) → Prop
 | [] => True
 | q :: qs => lookAt P h0 st ops q ∧ lookL P h0 st ops qs
theorem Im {h0 h : Nat → Blk} : ∀ {is : List Nat}, sameL h0 h is → ∀ i ∈ is, h i = h0 i
 | [], _, _, hi => by cases hi
 | j :: is, hs, i, hi => by
  rcases List.mem_cons.1 hi with rfl | hi
  ·exact hs.1
  ·exact Im hs.2 i hi
theorem GI {P : Program} {h0 : Nat → Blk} {st : St} {ops : Array Oper} : ∀ {qs : List (Nat × Nat)}, lookL P h0 st ops qs → ∀ q ∈ qs, lookAt P h0 st ops q
 | [], _, _, hq => by cases hq
 | p :: qs, hs, q, hq => by
  rcases List.mem_cons.1 hq with rfl | hq
  ·exact hs.1
  ·exact GI hs.2 q hq
def isLook (o : Op) : Option Operand := match kdOf o with | .look y => some y | _ => none
def drawOkL (W : FuncId → Bool) (qs : List (Nat × Nat)) (ops : Array Oper) : Bool :=
 let B := befs ops
 let r := List.range ops.size
 (r.all fun j => (edgesB ops j).all fun k => decide (k < j)) &&
 (r.all fun j => r.all fun i => !(bget B j i) || (edgesB ops j).any fun k => k == i || bget B k i) &&
 (r.all fun j => (List.range j).all fun i => match ops[i]?, ops[j]? with
  | some a, some b => (!(tmpClash ops a b) || bget B j i) && (!((isW W a.op && isS b.op) || (isS a.op && isW W b.op)) || bget B j i || qs.contains (i, j) || qs.contains (j, i))
  | _, _ => true) &&
 (r.all fun j => (List.range j).all fun i => match ops[i]?, ops[j]? with | some a, some b => !(isW W a.op && isW W b.op) | _, _ => true) &&
 (qs.all fun q => match ops[q.1]? with
  | some a => !(isW W a.op) && ((match isLook a.op with
   | some (.tmp t) => r.all fun j => decide (j < q.1) || (match ops[j]? with | some b => !(b.dst == some t) | none => true)
   | _ => false) || (match a.op with
   | .call { callee := .value (.func _), args := as0, argTypes := _ } => decide (q.1 < q.2) && (match ops[q.2]? with | some b => isW W b.op | none => false) &&
     (match a.dst with
     | some d => r.all fun j => decide (j ≤ q.1) || (match ops[j]? with | some b => !(b.dst == some d) && (as0.toList.all fun y => match y with | .tmp t => !(b.dst == some t) | _ => true) | none => true)
     | none => false) && (as0.toList.all fun y => match y with | .tmp t => !(a.dst == some t) | _ => true)
   | _ => false))
  | none => false)
section
variable {P : Program} {W : FuncId → Bool} {ops : Array Oper} {s : Nat → St} {x : Nat → AV} {qs : List (Nat × Nat)}
theorem Dn (h : drawOkL W qs ops = true) : (∀ j, j < ops.size → ∀ k ∈ edgesB ops j, k < j) ∧
  (∀ j i, j < ops.size → i < ops.size → bget (befs ops) j i = true → ∃ k ∈ edgesB ops j, k = i ∨ bget (befs ops) k i = true) ∧
  (∀ (i j : Nat) (a b : Oper), i < j → ops[i]? = some a → ops[j]? = some b → (tmpClash ops a b = true → bget (befs ops) j i = true) ∧
   ((isW W a.op = true ∧ isS b.op = true ∨ isS a.op = true ∧ isW W b.op = true) → bget (befs ops) j i = true ∨ (i, j) ∈ qs ∨ (j, i) ∈ qs)) ∧
  (∀ (i j : Nat) (a b : Oper), i < j → ops[i]? = some a → ops[j]? = some b → ¬ (isW W a.op = true ∧ isW W b.op = true)) ∧
  (∀ l w, (l, w) ∈ qs → ∃ (a : Oper), ops[l]? = some a ∧ isW W a.op = false ∧
   ((∃ t : Tmp, kdOf a.op = .look (.tmp t) ∧ ∀ j, l ≤ j → ∀ b, ops[j]? = some b → b.dst ≠ some t) ∨
   (∃ g as0 ts d b, a.op = .call { callee := .value (.func g), args := as0, argTypes := ts } ∧ a.dst = some d ∧ l < w ∧ ops[w]? = some b ∧ isW W b.op = true ∧
    (∀ j, l < j → ∀ b, ops[j]? = some b → b.dst ≠ some d) ∧ ∀ t : Tmp, Operand.tmp t ∈ as0.toList → ∀ j, l ≤ j → ∀ b, ops[j]? = some b → b.dst ≠ some t))) := by
 simp only [drawOkL, Bool.and_eq_true, List.all_eq_true, List.mem_range, decide_eq_true_eq] at h
 obtain ⟨⟨⟨⟨h1, h2⟩, h3⟩, h4⟩, h5⟩ := h
 have lt : ∀ {i : Nat} {a : Oper}, ops[i]? = some a → i < ops.size := fun {i a} ha => by
  rcases Nat.lt_or_ge i ops.size with h | h
  ·exact h
  ·rw [Array.getElem?_eq_none h] at ha; cases ha
 refine ⟨h1, fun j i hj hi hb => ?_, fun i j a b hij ha hb => ?_, fun i j a b hij ha hb hc => ?_, fun l w hq => ?_⟩
 ·have := h2 j hj i hi
  rw [hb] at this
  simp only [Bool.not_true, Bool.false_or, List.any_eq_true, Bool.or_eq_true, beq_iff_eq] at this
  exact this
 ·have := h3 j (lt hb) i hij
  rw [ha, hb] at this
  simp only [Bool.and_eq_true, Bool.or_eq_true, Bool.not_eq_true', List.contains_eq_mem, decide_eq_true_eq] at this
  obtain ⟨k1, k2⟩ := this
  refine ⟨fun hc => k1.resolve_left (by rw [hc]; simp), fun hc => ?_⟩
  rcases k2 with ((q | q) | q) | q
  ·exfalso
   rcases hc with ⟨c1, c2⟩ | ⟨c1, c2⟩ <;> simp [c1, c2] at q
  ·exact .inl q
  ·exact .inr (.inl q)
  ·exact .inr (.inr q)
 ·have := h4 j (lt hb) i hij
  rw [ha, hb] at this
  simp [hc.1, hc.2] at this
 ·have := h5 (l, w) hq
  simp only at this
  cases ha : ops[l]? with
  | none => rw [ha] at this; cases this
  | some a =>
   rw [ha] at this
   rw [Bool.and_eq_true, Bool.or_eq_true] at this
   obtain ⟨k1, k2⟩ := this
   refine ⟨a, rfl, by simpa using k1, ?_⟩
   rcases k2 with k2 | k2
   ·left
    unfold isLook at k2
    cases hk : kdOf a.op with
    | look y =>
     rw [hk] at k2
     simp only at k2
     cases y with
     | tmp t =>
      simp only [List.all_eq_true, List.mem_range, Bool.or_eq_true, decide_eq_true_eq] at k2
      refine ⟨t, rfl, fun j hj b hb hd => ?_⟩
      have := k2 j (lt hb)
      rw [hb] at this
      simp only [hd, BEq.rfl, Bool.not_true, Bool.false_eq_true, or_false] at this
      omega
     | const v => cases k2
     | global g => cases k2
     | func f => cases k2
    | blind => rw [hk] at k2; cases k2
    | put y => rw [hk] at k2; cases k2
    | app y v => rw [hk] at k2; cases k2
    | new => rw [hk] at k2; cases k2
    | call as0 => rw [hk] at k2; cases k2
    | wild => rw [hk] at k2; cases k2
   ·right
    split at k2
    ·rename_i g as0 ts he
     simp only [Bool.and_eq_true, decide_eq_true_eq] at k2
     obtain ⟨⟨⟨q1, q2⟩, q3⟩, q4⟩ := k2
     cases hb : ops[w]? with
     | none => rw [hb] at q2; cases q2
     | some b =>
      rw [hb] at q2
      cases hd : a.dst with
      | none => rw [hd] at q3; cases q3
      | some d =>
       rw [hd] at q3 q4
       simp only [List.all_eq_true, List.mem_range, Bool.or_eq_true, decide_eq_true_eq] at q3 q4
       refine ⟨g, as0, ts, d, b, he, rfl, q1, rfl, q2, fun j hj b' hb' hd' => ?_, fun t ht j hj b' hb' hd' => ?_⟩
       ·have := q3 j (lt hb')
        rw [hb'] at this
        simp [hd'] at this
        omega
       ·rcases Nat.lt_or_ge l j with c | c
        ·have := q3 j (lt hb')
         rw [hb'] at this
         rcases this with e | e
         ·omega
         ·simp only [Bool.and_eq_true, List.all_eq_true] at e
          have := e.2 _ ht
          simp [hd'] at this
        ·obtain rfl : j = l := by omega
         rw [ha] at hb'; cases hb'
         have := q4 _ ht
         rw [hd] at hd'; cases hd'
         simp at this
    ·cases k2
theorem Kb (hok : drawOkL W qs ops = true) (hrun : RunF P W ops s x) {m : Nat} (hm : m ≤ ops.size) : ((s m).h = (s 0).h) ∨ ((s m).h = (s ops.size).h) := by
 obtain ⟨_, _, _, c4, _⟩ := Dn hok
 by_cases hw : ∃ w o, w < m ∧ ops[w]? = some o ∧ isW W o.op = true
 ·obtain ⟨w, o, h1, h2, h3⟩ := hw
  have := CU hrun (k := m) (ops.size - m) zO (fun i b hi1 hi2 hb => by
   cases hb' : isW W b.op with
   | false => rfl
   | true => exact absurd ⟨h3, hb'⟩ (c4 w i o b zO h2 hb))
  rw [show m + (ops.size - m) = ops.size by omega] at this
  exact .inr this.1.symm
 ·have := CU hrun (k := 0) m zO (fun i b hi1 hi2 hb => by
   cases hb' : isW W b.op with
   | false => rfl
   | true => exact absurd ⟨i, b, zO, hb, hb'⟩ hw)
  rw [Nat.zero_add] at this
  exact .inl this.1
theorem Kc (hok : drawOkL W qs ops = true) (hlk : lookL P (s 0).h (s ops.size) ops qs) (hrun : RunF P W ops s x) {D : Nat → Prop} {st : St} (hD : Drawn ops W s x D st) {i : Nat} {o : Oper} (ho : ops[i]? = some o) (hni : ¬ D i) (hready : ∀ k ∈ edgesB ops i, D k) :
  ∃ st', OneStep P W ops st o (x i) st' ∧ Drawn ops W s x (fun j => D j ∨ j = i) st' := by
 obtain ⟨c1, c2, c3, c4, c5⟩ := Dn hok
 have hi : i < ops.size := by
  rcases Nat.lt_or_ge i ops.size with h | h
  ·exact h
  ·rw [Array.getElem?_eq_none h] at ho; cases ho
 have hD' : ∀ j, j < ops.size → bget (befs ops) i j = true → D j := by
  intro j hj hb
  obtain ⟨k, hk, hc⟩ := c2 i j hi hj hb
  have hDk := hready k hk
  rcases hc with rfl | hc
  ·exact hDk
  ·exact Ev c1 c2 hD.shut hD.lt k hDk j hj hc
 have hord : ∀ j, j < ops.size → j ≠ i → (j < i → bget (befs ops) i j = true) → (i < j → bget (befs ops) j i = true) → (D j ↔ j < i) := by
  intro j hj hne h1 h2
  constructor
  ·intro hDj
   rcases Nat.lt_or_ge j i with h | h
   ·exact h
   ·exact absurd (Ev c1 c2 hD.shut hD.lt j hDj i hi (h2 zO)) hni
  ·intro hlt; exact hD' j hj (h1 hlt)
 have hordT : ∀ j b, ops[j]? = some b → (tmpClash ops b o = true ∧ tmpClash ops o b = true) → j ≠ i → (D j ↔ j < i) := fun j b hb hc hne =>
  hord j (DHyp.lt_of hb) hne (fun h => (c3 j i b o h hb ho).1 hc.1) (fun h => (c3 i j o b h ho hb).1 hc.2)
 have hlook : ∀ t, t ∈ o.looksAt ops → st.fr t = (s i).fr t := by
  intro t ht
  refine (hD.fr t).unique (EC hrun i zO t) fun j hw => ?_
  have hw' := hw
  simp only [writes] at hw'
  cases hb : ops[j]? with
  | none => rw [hb] at hw'; cases hw'
  | some b =>
   rw [hb] at hw'
   simp only [Option.bind_some] at hw'
   by_cases hji : j = i
   ·subst hji
    exact ⟨fun h => absurd h hni, fun h => by omega⟩
   ·exact hordT j b hb ⟨by simp only [tmpClash, hw']; simp [ht], by simp only [tmpClash, hw']; simp [ht]⟩ hji
 have hev : ∀ y ∈ o.op.operands, st.ev y = (s i).ev y := by
  intro y hy
  cases y with
  | tmp t => exact hlook t (CV hy rfl)
  | const v => rfl
  | global g => rfl
  | func f => rfl
 obtain ⟨k, hk, hm1, hm2, hm3⟩ := hD.mem
 have hWi : isS o.op = true → (∀ w, (i, w) ∉ qs) → ∀ j b, ops[j]? = some b → isW W b.op = true → j ≠ i → (D j ↔ j < i) := by
  intro hS hnq j b hb hw hne
  have hjq : ∀ k, (j, k) ∉ qs := fun k hq => by
   obtain ⟨a, ha, hwa, _⟩ := c5 j k hq
   rw [hb] at ha; cases ha
   rw [hw] at hwa; cases hwa
  refine hord j (DHyp.lt_of hb) hne (fun h => ?_) (fun h => ?_)
  ·rcases (c3 j i b o h hb ho).2 (.inl ⟨hw, hS⟩) with q | q | q
   ·exact q
   ·exact absurd q (hjq _)
   ·exact absurd q (hnq _)
  ·rcases (c3 i j o b h ho hb).2 (.inr ⟨hS, hw⟩) with q | q | q
   ·exact q
   ·exact absurd q (hnq _)
   ·exact absurd q (hjq _)
 have hmem : isS o.op = true → (∀ w, (i, w) ∉ qs) → st.h = (s i).h ∧ st.nx = (s i).nx := by
  intro hS hnq
  have hno : ∀ j b, min i k ≤ j → j < max i k → ops[j]? = some b → isW W b.op = false := by
   intro j b h1 h2 hb
   cases hw : isW W b.op with
   | false => rfl
   | true =>
    exfalso
    by_cases hji : j = i
    ·subst hji
     rw [ho] at hb; cases hb
     have := hm3 j o ho hw
     exact hni (this.2 zO)
    ·have a := hm3 j b hb hw
     have b' := hWi hS hnq j b hb hw hji
     by_cases hDj : D j
     ·have := a.1 hDj; have := b'.1 hDj; omega
     ·have : ¬ j < k := fun h => hDj (a.2 h)
      have : ¬ j < i := fun h => hDj (b'.2 h)
      omega
  rcases Nat.le_total i k with h | h
  ·have := CU hrun (k := i) (k - i) zO (fun j b h1 h2 hb => hno j b zO zO hb)
   rw [show i + (k - i) = k by omega] at this
   exact ⟨hm1.trans this.1, hm2.trans this.2⟩
  ·have := CU hrun (k := k) (i - k) zO (fun j b h1 h2 hb => hno j b zO zO hb)
   rw [show k + (i - k) = i by omega] at this
   exact ⟨hm1.trans this.1.symm, hm2.trans this.2.symm⟩
 have hguard : guardA ops st o = guardA ops (s i) o := by
  unfold guardA
  cases hg : o.guard with
  | none => rfl
  | some p =>
   obtain ⟨j, want⟩ := p
   simp only
   cases hd : (ops[j]?).bind (·.dst) with
   | none => rfl
   | some d =>
    simp only
    rw [hlook d (by simp only [Oper.looksAt, List.mem_append, hg, hd]; exact .inr zS)]
 have hstep : ∃ st', OneStep P W ops st o (x i) st' ∧ st'.fr = (st.put o.dst (x i)).fr ∧ (isS o.op = true → (∀ w, (i, w) ∉ qs) → st'.h = (s (i + 1)).h ∧ st'.nx = (s (i + 1)).nx) := by
  rcases hrun i o ho with ⟨hg, st1, h1, h2⟩ | ⟨hg, hx, h2⟩
  ·by_cases hq : ∃ w, (i, w) ∈ qs
   ·obtain ⟨w, hq⟩ := hq
    obtain ⟨o', ho', hwo, hcase⟩ := c5 i w hq
    rw [ho] at ho'; cases ho'
    rcases hcase with ⟨t, hkd, hno⟩ | ⟨g, as0, ts, d, b, he, hd, hlw, hb, hwb, hnd, hna⟩
    ·skip
     have h1' : evalOp P (s i) o.op = some (x i, st1) := by
      unfold OpStep at h1
      split at h1
      ·rename_i f args ts he; rw [he] at hkd; cases f <;> simp [kdOf, isS] at hkd
      ·exact h1
     have hst : (s ops.size).fr t = (s i).fr t := ED hrun hno _ zO (Nat.le_refl _)
     have hsame : ∀ id ∈ idOf ((s i).ev (.tmp t)), (s ops.size).h id = (s 0).h id := by
      intro id hid
      have := GI hlk (i, w) hq
      simp only [lookAt, ho] at this
      have this : sameL (s 0).h (s ops.size).h (idsK (s ops.size) o.dst (kdOf o.op)) := by
       unfold floatK at this
       split at this
       ·rename_i he; rw [he] at hkd; simp [kdOf] at hkd
       ·exact this
      refine Im this id ?_
      rw [hkd, idsK]
      have e : (s ops.size).ev (.tmp t) = (s i).ev (.tmp t) := JZ hst
      rw [e]; exact hid
     have hh : ∀ id ∈ idOf ((s i).ev (.tmp t)), st.h id = (s i).h id := by
      intro id hid
      have e := hsame id hid
      rw [hm1]
      rcases Kb hok hrun hk with a | a <;> rcases Kb hok hrun (m := i) zO with b | b <;> rw [a, b]
      ·exact e.symm
      ·exact e
     obtain ⟨_, k2, _⟩ := JY (st2 := st) hkd hev hh h1'
     have hos : OpStep P W st o.op (x i) st := by
      unfold OpStep
      split
      ·rename_i f args ts he; rw [he] at hkd; cases f <;> simp [kdOf, isS] at hkd
      ·exact k2
     exact ⟨st.put o.dst (x i), .inl ⟨by rw [hguard]; exact hg, st, hos, rfl⟩, rfl, fun _ hnq => absurd hq (hnq w)⟩
    ·have hws : w < ops.size := DHyp.lt_of hb
     have only : ∀ j o', ops[j]? = some o' → isW W o'.op = true → j = w := fun j o' hj hw' => by
      rcases Nat.lt_trichotomy j w with h | h | h
      ·exact absurd ⟨hw', hwb⟩ (c4 j w o' b h hj hb)
      ·exact h
      ·exact absurd ⟨hwb, hw'⟩ (c4 w j b o' h hb hj)
     have hkw := hm3 w b hb hwb
     by_cases hDw : D w
     ·have hkl := hkw.1 hDw
      have ht := CU hrun (k := k) (ops.size - k) zO (fun j o' h1 h2 hj => by
       cases hw' : isW W o'.op with
       | false => rfl
       | true => have := only j o' hj hw'; omega)
      rw [show k + (ops.size - k) = ops.size by omega] at ht
      have e1 : st.h = (s ops.size).h := hm1.trans ht.1.symm
      have e2 : st.nx = (s ops.size).nx := hm2.trans ht.2.symm
      have hfl := GI hlk (i, w) hq
      simp only [lookAt, ho] at hfl
      rw [hd, he] at hfl
      simp only [floatK] at hfl
      have hxd : (s ops.size).fr d = x i := by
       have h1 : (s ops.size).fr d = (s (i + 1)).fr d := ED hrun (fun j hj b' hb' => hnd j zO b' hb') _ zO (Nat.le_refl _)
       rw [h1, (Bh (hrun i o ho)).1, hd]
       simp [St.put, upd]
      have hargs : as0.toList.map (s ops.size).ev = as0.toList.map st.ev := List.map_congr_left fun y hy => by
       have e3 : st.ev y = (s i).ev y := hev y (by rw [he]; simp [Op.operands, Call.operands]; exact .inr (by simpa using hy))
       rw [e3]
       cases y with
       | tmp t => exact JZ (ED hrun (hna t hy) _ zO (Nat.le_refl _))
       | const v => rfl
       | global g => rfl
       | func f => rfl
      rw [hargs, hxd] at hfl
      have hin := Df st.fr hfl
      have hst := GG (st := s ops.size) (st2 := st) e1 e2
      rw [← hst] at hin
      have hos : OpStep P W st o.op (x i) st := by
       rw [he] at h1 ⊢
       obtain ⟨g', first, cap, w1, w2, w3, w4, w5⟩ := h1
       have w1' : AV.fn (.func g) [] [] = AV.fn (.func g') first cap := w1
       injection w1' with x1 x2 x3
       injection x1 with x1
       subst x1; subst x2; subst x3
       have hm : as0.toList.map st.ev = as0.toList.map (s i).ev := List.map_congr_left fun y hy => hev y (by rw [he]; simp [Op.operands, Call.operands]; exact .inr (by simpa using hy))
       refine ⟨g, [], [], rfl, w2, by simpa using hin, fun _ => ⟨rfl, rfl⟩, fun hw hp h nx => ?_⟩
       have := w5 hw (by simp only [List.nil_append, List.append_nil] at hp ⊢; rw [← hm]; exact hp) h nx
       simp only [List.nil_append, List.append_nil] at this ⊢
       rw [← hm] at this
       exact Df st.fr this
      exact ⟨st.put o.dst (x i), .inl ⟨by rw [hguard]; exact hg, st, hos, rfl⟩, rfl, fun _ hnq => absurd hq (hnq w)⟩
     ·have hkl : k ≤ w := by
       rcases Nat.lt_or_ge w k with h | h
       ·exact absurd (hkw.2 h) hDw
       ·exact h
      have t1 := CU hrun (k := 0) k zO (fun j o' h1 h2 hj => by
       cases hw' : isW W o'.op with
       | false => rfl
       | true => have := only j o' hj hw'; omega)
      have t2 := CU hrun (k := 0) i zO (fun j o' h1 h2 hj => by
       cases hw' : isW W o'.op with
       | false => rfl
       | true => have := only j o' hj hw'; omega)
      rw [Nat.zero_add] at t1 t2
      obtain ⟨st2, k1, k2, k3, k4⟩ := C9 h1 hev (fun _ => ⟨hm1.trans (t1.1.trans t2.1.symm), hm2.trans (t1.2.trans t2.2.symm)⟩)
      exact ⟨st2.put o.dst (x i), .inl ⟨by rw [hguard]; exact hg, st2, k1, rfl⟩, by cases o.dst <;> simp [St.put, k2], fun _ hnq => absurd hq (hnq w)⟩
   ·have hnq : ∀ w, (i, w) ∉ qs := fun w h => hq ⟨w, h⟩
    obtain ⟨st2, k1, k2, k3, k4⟩ := C9 h1 hev (fun hS => hmem hS hnq)
    refine ⟨st2.put o.dst (x i), .inl ⟨by rw [hguard]; exact hg, st2, k1, rfl⟩, ?_, fun hS _ => ?_⟩
    ·cases o.dst <;> simp [St.put, k2]
    ·rw [(AY ..).1, (AY ..).2, h2, (AY ..).1, (AY ..).2]; exact k3 hS
  ·refine ⟨st.put o.dst (.tup []), .inr ⟨by rw [hguard]; exact hg, hx, rfl⟩, by rw [hx], fun hS hnq => ?_⟩
   rw [(AY ..).1, (AY ..).2, h2, (AY ..).1, (AY ..).2]; exact hmem hS hnq
 obtain ⟨st', g1, g2, g3⟩ := hstep
 refine ⟨st', g1, ⟨?_, ?_, ?_, ?_⟩⟩
 ·rintro j (hj | rfl) k hk
  ·exact .inl (hD.shut j hj k hk)
  ·exact .inl (hready k hk)
 ·rintro j (hj | rfl)
  ·exact hD.lt j hj
  ·exact hi
 ·intro t
  rw [g2]
  by_cases hw : writes ops i t
  ·have hd : o.dst = some t := by simpa [writes, ho] using hw
   refine .inl ⟨i, .inr rfl, hw, ?_, by rw [hd]; simp [St.put, upd]⟩
   rintro j (hj | rfl) hwj
   ·have hb' := hwj
    simp only [writes] at hb'
    cases hb : ops[j]? with
    | none => rw [hb] at hb'; cases hb'
    | some b =>
     rw [hb] at hb'
     simp only [Option.bind_some] at hb'
     have hne : j ≠ i := fun e => hni (e ▸ hj)
     have := (hordT j b hb ⟨by simp [tmpClash, hb', hd], by simp [tmpClash, hb', hd]⟩ hne).1 hj
     omega
   ·exact Nat.le_refl _
  ·have hv : (st.put o.dst (x i)).fr t = st.fr t := by
    cases hd : o.dst with
    | none => rfl
    | some d =>
     have hne : t ≠ d := fun e => hw (by simp [writes, ho, hd, e])
     simp [St.put, upd, hne]
   rw [hv]
   rcases hD.fr t with ⟨j, a1, a2, a3, a4⟩ | ⟨a1, a2⟩
   ·refine .inl ⟨j, .inl a1, a2, ?_, a4⟩
    rintro j' (h | rfl) hw'
    ·exact a3 j' h hw'
    ·exact absurd hw' hw
   ·refine .inr ⟨?_, a2⟩
    rintro j (h | rfl) hw'
    ·exact a1 j h hw'
    ·exact hw hw'
 ·by_cases hwi : isW W o.op = true
  ·have hS := Eu hwi
   have hnq : ∀ w, (i, w) ∉ qs := fun w hq => by
    obtain ⟨a, ha, hwa, _⟩ := c5 i w hq
    rw [ho] at ha; cases ha
    rw [hwi] at hwa; cases hwa
   obtain ⟨e1, e2⟩ := g3 hS hnq
   refine ⟨i + 1, zO, e1, e2, fun j b hb hw => ?_⟩
   by_cases hji : j = i
   ·subst hji; exact ⟨fun _ => by omega, fun _ => .inr rfl⟩
   ·have := hWi hS hnq j b hb hw hji
    constructor
    ·rintro (h | h)
     ·have := this.1 h; omega
     ·exact absurd h hji
    ·intro h; exact .inl (this.2 zO)
  ·have hwi' : isW W o.op = false := by simpa using hwi
   have hsame : st'.h = st.h ∧ st'.nx = st.nx := (Bh g1).2 hwi'
   refine ⟨k, hk, hsame.1.trans hm1, hsame.2.trans hm2, fun j b hb hw => ?_⟩
   have hji : j ≠ i := by
    rintro rfl
    rw [ho] at hb; cases hb
    exact hwi hw
   rw [← hm3 j b hb hw]
   exact ⟨fun h => h.elim id (fun e => absurd e hji), .inl⟩
end
def isLv : List (Nat × Nat) → Bool
 | (a, _) :: _ => a == 1
 | [] => false
def loadV (P : Program) (h0 : Nat → Blk) (st : St) (dst : Option Tmp) (o : Op) : Prop :=
 match o with
 | .load t y => match dst with
  | some d => loadA P ⟨st.fr, h0, st.nx⟩ t (st.ev y) = some (st.fr d)
  | none => False
 | _ => False
def lookAtV (P : Program) (h0 : Nat → Blk) (st : St) (ops : Array Oper) (q : Nat × Nat) : Prop :=
 match ops[q.1]? with
 | some a => loadV P h0 st a.dst a.op
 | none => True
def lookLV (P : Program) (h0 : Nat → Blk) (st : St) (ops : Array Oper) : List (Nat × Nat) → Prop
 | [] => True
 | q :: qs => lookAtV P h0 st ops q ∧ lookLV P h0 st ops qs
theorem HQ {P : Program} {h0 : Nat → Blk} {st : St} {ops : Array Oper} : ∀ {qs : List (Nat × Nat)}, lookLV P h0 st ops qs → ∀ q ∈ qs, lookAtV P h0 st ops q
 | [], _, _, hq => by cases hq
 | p :: qs, hs, q, hq => by
  rcases List.mem_cons.1 hq with rfl | hq
  ·exact hs.1
  ·exact HQ hs.2 q hq
def drawOkV (W : FuncId → Bool) (qs : List (Nat × Nat)) (ops : Array Oper) : Bool :=
 let B := befs ops
 let r := List.range ops.size
 (r.all fun j => (edgesB ops j).all fun k => decide (k < j)) &&
 (r.all fun j => r.all fun i => !(bget B j i) || (edgesB ops j).any fun k => k == i || bget B k i) &&
 (r.all fun j => (List.range j).all fun i => match ops[i]?, ops[j]? with
  | some a, some b => (!(tmpClash ops a b) || bget B j i) && (!((isW W a.op && isS b.op) || (isS a.op && isW W b.op)) || bget B j i || qs.contains (j, i))
  | _, _ => true) &&
 (qs.all fun q => (List.range q.2).all fun j => match ops[j]? with | some b => !(isW W b.op) | none => true) &&
 (qs.all fun q => match ops[q.1]? with
  | some a => decide (q.2 < q.1) && (match a.op, a.dst with
   | .load _ (.tmp t), some d => !(d == t) && (r.all fun j => decide (j ≤ q.1) || (match ops[j]? with | some b => !(b.dst == some t) && !(b.dst == some d) | none => true))
   | _, _ => false)
  | none => false)
section
variable {P : Program} {W : FuncId → Bool} {ops : Array Oper} {s : Nat → St} {x : Nat → AV} {qs : List (Nat × Nat)}
theorem FI (h : drawOkV W qs ops = true) : (∀ j, j < ops.size → ∀ k ∈ edgesB ops j, k < j) ∧
  (∀ j i, j < ops.size → i < ops.size → bget (befs ops) j i = true → ∃ k ∈ edgesB ops j, k = i ∨ bget (befs ops) k i = true) ∧
  (∀ (i j : Nat) (a b : Oper), i < j → ops[i]? = some a → ops[j]? = some b → (tmpClash ops a b = true → bget (befs ops) j i = true) ∧
   ((isW W a.op = true ∧ isS b.op = true ∨ isS a.op = true ∧ isW W b.op = true) → bget (befs ops) j i = true ∨ (j, i) ∈ qs)) ∧
  (∀ l w, (l, w) ∈ qs → ∀ (j : Nat) (b : Oper), j < w → ops[j]? = some b → isW W b.op = false) ∧
  (∀ l w, (l, w) ∈ qs → ∃ (a : Oper) (e : Nat) (t d : Tmp), ops[l]? = some a ∧ w < l ∧ a.op = .load e (.tmp t) ∧ a.dst = some d ∧ d ≠ t ∧ ∀ j, l < j → ∀ b, ops[j]? = some b → b.dst ≠ some t ∧ b.dst ≠ some d) := by
 simp only [drawOkV, Bool.and_eq_true, List.all_eq_true, List.mem_range, decide_eq_true_eq] at h
 obtain ⟨⟨⟨⟨h1, h2⟩, h3⟩, h4⟩, h5⟩ := h
 have lt : ∀ {i : Nat} {a : Oper}, ops[i]? = some a → i < ops.size := fun {i a} ha => by
  rcases Nat.lt_or_ge i ops.size with h | h
  ·exact h
  ·rw [Array.getElem?_eq_none h] at ha; cases ha
 refine ⟨h1, fun j i hj hi hb => ?_, fun i j a b hij ha hb => ?_, fun l w hq j b hj hb => ?_, fun l w hq => ?_⟩
 ·have := h2 j hj i hi
  rw [hb] at this
  simp only [Bool.not_true, Bool.false_or, List.any_eq_true, Bool.or_eq_true, beq_iff_eq] at this
  exact this
 ·have := h3 j (lt hb) i hij
  rw [ha, hb] at this
  simp only [Bool.and_eq_true, Bool.or_eq_true, Bool.not_eq_true', List.contains_eq_mem, decide_eq_true_eq] at this
  obtain ⟨k1, k2⟩ := this
  refine ⟨fun hc => k1.resolve_left (by rw [hc]; simp), fun hc => ?_⟩
  rcases k2 with (q | q) | q
  ·exfalso
   rcases hc with ⟨c1, c2⟩ | ⟨c1, c2⟩ <;> simp [c1, c2] at q
  ·exact .inl q
  ·exact .inr q
 ·have := h4 (l, w) hq j hj
  rw [hb] at this
  simpa using this
 ·have := h5 (l, w) hq
  simp only at this
  cases ha : ops[l]? with
  | none => rw [ha] at this; cases this
  | some a =>
   rw [ha] at this
   simp only [Bool.and_eq_true, decide_eq_true_eq] at this
   obtain ⟨k1, k2⟩ := this
   split at k2
   ·rename_i e t d he hd
    simp only [Bool.and_eq_true, List.all_eq_true, List.mem_range, Bool.or_eq_true, decide_eq_true_eq, Bool.not_eq_true', beq_eq_false_iff_ne] at k2
    obtain ⟨k2, k3⟩ := k2
    refine ⟨a, e, t, d, rfl, k1, he, hd, k2, fun j hj b hb => ?_⟩
    have := k3 j (lt hb)
    rw [hb] at this
    rcases this with q | q
    ·omega
    ·simpa using q
   ·cases k2
theorem Ke (hok : drawOkV W qs ops = true) (hlk : lookLV P (s 0).h (s ops.size) ops qs) (hrun : RunF P W ops s x) {D : Nat → Prop} {st : St} (hD : Drawn ops W s x D st) {i : Nat} {o : Oper} (ho : ops[i]? = some o) (hni : ¬ D i) (hready : ∀ k ∈ edgesB ops i, D k) :
  ∃ st', OneStep P W ops st o (x i) st' ∧ Drawn ops W s x (fun j => D j ∨ j = i) st' := by
 obtain ⟨c1, c2, c3, c4, c5⟩ := FI hok
 have hi : i < ops.size := by
  rcases Nat.lt_or_ge i ops.size with h | h
  ·exact h
  ·rw [Array.getElem?_eq_none h] at ho; cases ho
 have hD' : ∀ j, j < ops.size → bget (befs ops) i j = true → D j := by
  intro j hj hb
  obtain ⟨k, hk, hc⟩ := c2 i j hi hj hb
  have hDk := hready k hk
  rcases hc with rfl | hc
  ·exact hDk
  ·exact Ev c1 c2 hD.shut hD.lt k hDk j hj hc
 have hord : ∀ j, j < ops.size → j ≠ i → (j < i → bget (befs ops) i j = true) → (i < j → bget (befs ops) j i = true) → (D j ↔ j < i) := by
  intro j hj hne h1 h2
  constructor
  ·intro hDj
   rcases Nat.lt_or_ge j i with h | h
   ·exact h
   ·exact absurd (Ev c1 c2 hD.shut hD.lt j hDj i hi (h2 zO)) hni
  ·intro hlt; exact hD' j hj (h1 hlt)
 have hordT : ∀ j b, ops[j]? = some b → (tmpClash ops b o = true ∧ tmpClash ops o b = true) → j ≠ i → (D j ↔ j < i) := fun j b hb hc hne =>
  hord j (DHyp.lt_of hb) hne (fun h => (c3 j i b o h hb ho).1 hc.1) (fun h => (c3 i j o b h ho hb).1 hc.2)
 have hlook : ∀ t, t ∈ o.looksAt ops → st.fr t = (s i).fr t := by
  intro t ht
  refine (hD.fr t).unique (EC hrun i zO t) fun j hw => ?_
  have hw' := hw
  simp only [writes] at hw'
  cases hb : ops[j]? with
  | none => rw [hb] at hw'; cases hw'
  | some b =>
   rw [hb] at hw'
   simp only [Option.bind_some] at hw'
   by_cases hji : j = i
   ·subst hji
    exact ⟨fun h => absurd h hni, fun h => by omega⟩
   ·exact hordT j b hb ⟨by simp only [tmpClash, hw']; simp [ht], by simp only [tmpClash, hw']; simp [ht]⟩ hji
 have hev : ∀ y ∈ o.op.operands, st.ev y = (s i).ev y := by
  intro y hy
  cases y with
  | tmp t => exact hlook t (CV hy rfl)
  | const v => rfl
  | global g => rfl
  | func f => rfl
 obtain ⟨k, hk, hm1, hm2, hm3⟩ := hD.mem
 have hnl : ∀ {j : Nat} {b : Oper}, ops[j]? = some b → isW W b.op = true → ∀ w, (j, w) ∉ qs := fun {j b} hb hw w hq => by
  obtain ⟨a, e, t, d, ha, _, he, _⟩ := c5 j w hq
  rw [hb] at ha; cases ha
  rw [he] at hw; cases hw
 have hWi : isS o.op = true → ∀ j b, ops[j]? = some b → isW W b.op = true → j ≠ i → (i, j) ∉ qs → (D j ↔ j < i) := by
  intro hS j b hb hw hne hnq
  refine hord j (DHyp.lt_of hb) hne (fun h => ?_) (fun h => ?_)
  ·rcases (c3 j i b o h hb ho).2 (.inl ⟨hw, hS⟩) with q | q
   ·exact q
   ·exact absurd q hnq
  ·rcases (c3 i j o b h ho hb).2 (.inr ⟨hS, hw⟩) with q | q
   ·exact q
   ·exact absurd q (hnl hb hw _)
 have hmem : isS o.op = true → (∀ j b, ops[j]? = some b → isW W b.op = true → j ≠ i → (D j ↔ j < i)) → st.h = (s i).h ∧ st.nx = (s i).nx := by
  intro hS hall
  have hno : ∀ j b, min i k ≤ j → j < max i k → ops[j]? = some b → isW W b.op = false := by
   intro j b h1 h2 hb
   cases hw : isW W b.op with
   | false => rfl
   | true =>
    exfalso
    by_cases hji : j = i
    ·subst hji
     rw [ho] at hb; cases hb
     have := hm3 j o ho hw
     exact hni (this.2 zO)
    ·have a := hm3 j b hb hw
     have b' := hall j b hb hw hji
     by_cases hDj : D j
     ·have := a.1 hDj; have := b'.1 hDj; omega
     ·have : ¬ j < k := fun h => hDj (a.2 h)
      have : ¬ j < i := fun h => hDj (b'.2 h)
      omega
  rcases Nat.le_total i k with h | h
  ·have := CU hrun (k := i) (k - i) zO (fun j b h1 h2 hb => hno j b zO zO hb)
   rw [show i + (k - i) = k by omega] at this
   exact ⟨hm1.trans this.1, hm2.trans this.2⟩
  ·have := CU hrun (k := k) (i - k) zO (fun j b h1 h2 hb => hno j b zO zO hb)
   rw [show k + (i - k) = i by omega] at this
   exact ⟨hm1.trans this.1.symm, hm2.trans this.2.symm⟩
 have hguard : guardA ops st o = guardA ops (s i) o := by
  unfold guardA
  cases hg : o.guard with
  | none => rfl
  | some p =>
   obtain ⟨j, want⟩ := p
   simp only
   cases hd : (ops[j]?).bind (·.dst) with
   | none => rfl
   | some d =>
    simp only
    rw [hlook d (by simp only [Oper.looksAt, List.mem_append, hg, hd]; exact .inr zS)]
 have hstep : ∃ st', OneStep P W ops st o (x i) st' ∧ st'.fr = (st.put o.dst (x i)).fr ∧ (isW W o.op = true → st'.h = (s (i + 1)).h ∧ st'.nx = (s (i + 1)).nx) := by
  by_cases hall : isS o.op = true → ∀ j b, ops[j]? = some b → isW W b.op = true → j ≠ i → (D j ↔ j < i)
  ·rcases hrun i o ho with ⟨hg, st1, h1, h2⟩ | ⟨hg, hx, h2⟩
   ·obtain ⟨st2, k1, k2, k3, k4⟩ := C9 h1 hev (fun hS => hmem hS (hall hS))
    refine ⟨st2.put o.dst (x i), .inl ⟨by rw [hguard]; exact hg, st2, k1, rfl⟩, ?_, fun hW => ?_⟩
    ·cases o.dst <;> simp [St.put, k2]
    ·rw [(AY ..).1, (AY ..).2, h2, (AY ..).1, (AY ..).2]; exact k3 (Eu hW)
   ·refine ⟨st.put o.dst (.tup []), .inr ⟨by rw [hguard]; exact hg, hx, rfl⟩, by rw [hx], fun hW => ?_⟩
    rw [(AY ..).1, (AY ..).2, h2, (AY ..).1, (AY ..).2]; exact hmem (Eu hW) (hall (Eu hW))
  ·obtain ⟨hS, hne⟩ := Classical.not_imp.1 hall
   obtain ⟨w, hne⟩ := Classical.not_forall.1 hne
   obtain ⟨b, hne⟩ := Classical.not_forall.1 hne
   obtain ⟨hb, hne⟩ := Classical.not_imp.1 hne
   obtain ⟨hw, hne⟩ := Classical.not_imp.1 hne
   obtain ⟨hwi, hne⟩ := Classical.not_imp.1 hne
   have hq : (i, w) ∈ qs := Classical.byContradiction fun h => hne (hWi hS w b hb hw hwi h)
   obtain ⟨a, e, t, d, ha, hlw, he, hd, hdt, hno⟩ := c5 i w hq
   rw [ho] at ha; cases ha
   have hnD : ¬ D w := fun h => hne ⟨fun _ => hlw, fun _ => h⟩
   have hkw : k ≤ w := by
    rcases Nat.lt_or_ge w k with h | h
    ·exact absurd ((hm3 w b hb hw).2 h) hnD
    ·exact h
   have t0 := CU hrun (k := 0) k zO (fun j b' _ h2 hb' => c4 i w hq j b' zO hb')
   rw [Nat.zero_add] at t0
   have e1 : st.h = (s 0).h := hm1.trans t0.1
   have hlv := HQ hlk (i, w) hq
   simp only [lookAtV, ho] at hlv
   rw [he, hd] at hlv
   simp only [loadV] at hlv
   have hend : (s ops.size).fr t = (s (i + 1)).fr t := ED hrun (fun j hj b' hb' => (hno j zO b' hb').1) _ zO (Nat.le_refl _)
   have hend2 : (s ops.size).fr d = (s (i + 1)).fr d := ED hrun (fun j hj b' hb' => (hno j zO b' hb').2) _ zO (Nat.le_refl _)
   have hs1 := (Bh (hrun i o ho)).1
   have hst : (s (i + 1)).fr t = (s i).fr t := by rw [hs1, hd]; simp [St.put, upd]; exact fun h => absurd h.symm hdt
   have hsd : (s (i + 1)).fr d = x i := by rw [hs1, hd]; simp [St.put, upd]
   have hevt : (s ops.size).ev (.tmp t) = st.ev (.tmp t) := by
    have h1 : st.ev (.tmp t) = (s i).ev (.tmp t) := hev _ (by rw [he]; simp [Op.operands])
    rw [h1]
    show (s ops.size).fr t = (s i).fr t
    rw [hend, hst]
   rw [hevt, hend2, hsd] at hlv
   have hlv2 : loadA P st e (st.ev (.tmp t)) = some (x i) := by
    rw [← hlv]
    exact Ka (fun id _ => by rw [e1])
   have hWf : isW W o.op = false := by rw [he]; rfl
   rcases hrun i o ho with ⟨hg, st1, h1, h2⟩ | ⟨hg, hx, h2⟩
   ·have h1' : evalOp P (s i) (.load e (.tmp t)) = some (x i, st1) := by rw [he] at h1; exact h1
    have hok : okT P e = true := by
     simp only [evalOp] at h1'
     split at h1'
     ·assumption
     ·cases h1'
    have hos : OpStep P W st o.op (x i) st := by
     rw [he]
     show evalOp P st (.load e (.tmp t)) = some (x i, st)
     simp only [evalOp, hok, if_true, hlv2, Option.map_some]
    exact ⟨st.put o.dst (x i), .inl ⟨by rw [hguard]; exact hg, st, hos, rfl⟩, rfl, fun h => by rw [hWf] at h; cases h⟩
   ·exact ⟨st.put o.dst (.tup []), .inr ⟨by rw [hguard]; exact hg, hx, rfl⟩, by rw [hx], fun h => by rw [hWf] at h; cases h⟩
 obtain ⟨st', g1, g2, g3⟩ := hstep
 refine ⟨st', g1, ⟨?_, ?_, ?_, ?_⟩⟩
 ·rintro j (hj | rfl) k hk
  ·exact .inl (hD.shut j hj k hk)
  ·exact .inl (hready k hk)
 ·rintro j (hj | rfl)
  ·exact hD.lt j hj
  ·exact hi
 ·intro t
  rw [g2]
  by_cases hw : writes ops i t
  ·have hd : o.dst = some t := by simpa [writes, ho] using hw
   refine .inl ⟨i, .inr rfl, hw, ?_, by rw [hd]; simp [St.put, upd]⟩
   rintro j (hj | rfl) hwj
   ·have hb' := hwj
    simp only [writes] at hb'
    cases hb : ops[j]? with
    | none => rw [hb] at hb'; cases hb'
    | some b =>
     rw [hb] at hb'
     simp only [Option.bind_some] at hb'
     have hne : j ≠ i := fun e => hni (e ▸ hj)
     have := (hordT j b hb ⟨by simp [tmpClash, hb', hd], by simp [tmpClash, hb', hd]⟩ hne).1 hj
     omega
   ·exact Nat.le_refl _
  ·have hv : (st.put o.dst (x i)).fr t = st.fr t := by
    cases hd : o.dst with
    | none => rfl
    | some d =>
     have hne : t ≠ d := fun e => hw (by simp [writes, ho, hd, e])
     simp [St.put, upd, hne]
   rw [hv]
   rcases hD.fr t with ⟨j, a1, a2, a3, a4⟩ | ⟨a1, a2⟩
   ·refine .inl ⟨j, .inl a1, a2, ?_, a4⟩
    rintro j' (h | rfl) hw'
    ·exact a3 j' h hw'
    ·exact absurd hw' hw
   ·refine .inr ⟨?_, a2⟩
    rintro j (h | rfl) hw'
    ·exact a1 j h hw'
    ·exact hw hw'
 ·by_cases hwi : isW W o.op = true
  ·have hS := Eu hwi
   obtain ⟨e1, e2⟩ := g3 hwi
   refine ⟨i + 1, zO, e1, e2, fun j b hb hw => ?_⟩
   by_cases hji : j = i
   ·subst hji; exact ⟨fun _ => by omega, fun _ => .inr rfl⟩
   ·have := hWi hS j b hb hw hji (hnl ho hwi j)
    constructor
    ·rintro (h | h)
     ·have := this.1 h; omega
     ·exact absurd h hji
    ·intro h; exact .inl (this.2 zO)
  ·have hwi' : isW W o.op = false := by simpa using hwi
   have hsame : st'.h = st.h ∧ st'.nx = st.nx := (Bh g1).2 hwi'
   refine ⟨k, hk, hsame.1.trans hm1, hsame.2.trans hm2, fun j b hb hw => ?_⟩
   have hji : j ≠ i := by
    rintro rfl
    rw [ho] at hb; cases hb
    exact hwi hw
   rw [← hm3 j b hb hw]
   exact ⟨fun h => h.elim id (fun e => absurd e hji), .inl⟩
end
inductive Ex where
 | normal | exit (id : Nat) | ret
def Ex.to : Ex → Exit
 | .normal => .normal
 | .exit id => .exit id
 | .ret => .ret
def opK (P : Program) (W : FuncId → Bool) (st : St) (dst : Option Tmp) (o : Op) (K : St → Prop) : Prop :=
 match o with
 | .call { callee := .value f, args := args, argTypes := ts } => ∃ x st', ValCall P W st (.call { callee := .value f, args := args, argTypes := ts }) f args x st' ∧ K (st'.put dst x)
 | o => match evalOp P st o with
  | some p => K (p.2.put dst p.1)
  | none => False
def wpo (P : Program) (W : FuncId → Bool) (ops : Array Oper) (o : Oper) (st : St) (K : St → Prop) : Prop :=
 match guardA ops st o with
 | some g => (g = true → opK P W st o.dst o.op K) ∧ (g = false → K (st.put o.dst (.tup [])))
 | none => False
def wpos (P : Program) (W : FuncId → Bool) (ops : Array Oper) : List Oper → St → (St → Prop) → Prop
 | [], st, K => K st
 | o :: os, st, K => wpo P W ops o st fun st' => wpos P W ops os st' K
def Lfp (F : (St → Prop) → St → Prop) (st : St) : Prop := ∀ J : St → Prop, (∀ st, F J st → J st) → J st
def Ex.thenK (K : St → Prop) (Q : Ex → St → Prop) : Ex → St → Prop
 | .normal, st => K st
 | e, st => Q e st
def Ex.inB (id : Nat) (Q : Ex → St → Prop) : Ex → St → Prop
 | .exit i, st => if i = id then Q .normal st else Q (.exit i) st
 | e, st => Q e st
structure WP where
 w : FuncId → Bool
 d : Nat → Option (List (Nat × Nat))
def noH : Nat → Blk := fun _ => Blk.dead
def lh (d : Option (List (Nat × Nat))) (st : St) : Nat → Blk :=
 match d with
 | some ps => if isLk ps then st.h else noH
 | none => noH
def dOk (P : Program) (d : Option (List (Nat × Nat))) (ops : Array Oper) (h0 : Nat → Blk) (st : St) : Prop :=
 match d with
 | none => True
 | some ps => if isLk ps then (if isLv ps then lookLV P h0 st ops ps.tail else lookL P h0 st ops ps.tail) else apartL st ops ps ∧ pureOL st ops.toList
def wpc (P : Program) (W : WP) : Code → St → (Ex → St → Prop) → Prop
 | .skip, st, Q => Q .normal st
 | .label _, st, Q => Q .normal st
 | .region id ops _, st, Q => wpos P W.w ops ops.toList st fun st' => dOk P (W.d id) ops (lh (W.d id) st) st' ∧ Q .normal st'
 | .seq a b, st, Q => wpc P W a st (Ex.thenK (fun st' => wpc P W b st' Q) Q)
 | .cond c a b, st, Q => match st.ev c with
  | .bool t => (t = true → wpc P W a st Q) ∧ (t = false → wpc P W b st Q)
  | _ => False
 | .block id c, st, Q => wpc P W c st (Ex.inB id Q)
 | .loop c, st, Q => Lfp (fun J st => wpc P W c st (Ex.thenK J Q)) st
 | .exit id, st, Q => Q (.exit id) st
 | .ret, st, Q => Q .ret st
 | .scope c, st, Q => wpc P W c st Q
 | _, _, _ => False
theorem Pe {P : Program} {W : FuncId → Bool} {st : St} {dst : Option Tmp} {o : Op} {K K' : St → Prop} (hK : ∀ st, K st → K' st) (h : opK P W st dst o K) : opK P W st dst o K' := by
 unfold opK at h ⊢
 split at h
 ·obtain ⟨x, st', h1, h2⟩ := h; exact ⟨x, st', h1, hK _ h2⟩
 ·split at h
  ·exact hK _ h
  ·cases h
theorem GJ {P : Program} {W : FuncId → Bool} {ops : Array Oper} : ∀ {os : List Oper} {st : St} {K K' : St → Prop}, (∀ st, K st → K' st) → wpos P W ops os st K → wpos P W ops os st K'
 | [], _, _, _, hK, h => hK _ h
 | o :: os, st, K, K', hK, h => by
  simp only [wpos, wpo] at h ⊢
  cases hg : guardA ops st o with
  | none => rw [hg] at h; exact h.elim
  | some g => rw [hg] at h; exact ⟨fun hg => Pe (fun st h => GJ hK h) (h.1 hg), fun hg => GJ hK (h.2 hg)⟩
theorem Lfp.mono {F G : (St → Prop) → St → Prop} (h : ∀ J st, F J st → G J st) {st : St} (hl : Lfp F st) : Lfp G st := fun J hJ => hl J fun st hf => hJ st (h J st hf)
theorem CA {P : Program} {W : WP} : ∀ (c : Code) {st : St} {Q Q' : Ex → St → Prop}, (∀ e st, Q e st → Q' e st) → wpc P W c st Q → wpc P W c st Q'
 | .skip, _, _, _, hQ, h => hQ _ _ h
 | .label _, _, _, _, hQ, h => hQ _ _ h
 | .region _ ops _, _, _, _, hQ, h => GJ (fun st h => ⟨h.1, hQ _ st h.2⟩) h
 | .seq a b, st, Q, Q', hQ, h => by
  simp only [wpc] at h ⊢
  refine CA a (fun e st' h => ?_) h
  cases e with
  | normal => exact CA b hQ h
  | exit id => exact hQ _ _ h
  | ret => exact hQ _ _ h
 | .cond c a b, st, Q, Q', hQ, h => by
  simp only [wpc] at h ⊢
  split at h
  ·rename_i t ht; exact ⟨fun e => CA a hQ (h.1 e), fun e => CA b hQ (h.2 e)⟩
  ·cases h
 | .block id c, st, Q, Q', hQ, h => by
  simp only [wpc] at h ⊢
  refine CA c (fun e st' h => ?_) h
  cases e with
  | normal => exact hQ _ _ h
  | exit i => simp only [Ex.inB] at h ⊢; split <;> rename_i hi <;> simp only [hi, if_true, if_false] at h <;> exact hQ _ _ h
  | ret => exact hQ _ _ h
 | .loop c, st, Q, Q', hQ, h => by
  simp only [wpc] at h ⊢
  refine h.mono fun J st h => CA c (fun e st' h => ?_) h
  cases e with
  | normal => exact h
  | exit i => exact hQ _ _ h
  | ret => exact hQ _ _ h
 | .exit id, _, _, _, hQ, h => hQ _ _ h
 | .ret, _, _, _, hQ, h => hQ _ _ h
 | .scope c, _, _, _, hQ, h => by simp only [wpc] at h ⊢; exact CA c hQ h
 | .goto _, _, _, _, _, h => by simp [wpc] at h
 | .refuse _, _, _, _, _, h => by simp [wpc] at h
 | .rangeFunc .., _, _, _, _, h => by simp [wpc] at h
def callsOk (W : FuncId → Bool) (ops : Array Oper) : Bool := ops.all fun o => match kdOf o.op with | .call _ => !isW W o.op | .new => o.dst.isSome | _ => true
def codeOk (W : WP) (n : Nat) : Code → Bool
 | .region id ops draw => (ops.all fun o => match o.dst with | some d => decide (d < n) | none => true) && (!draw || match W.d id with | none => drawOk W.w ops | some ps => if isLk ps then (if isLv ps then drawOkV W.w ps.tail ops else drawOkL W.w ps.tail ops) else drawOkD ps ops && callsOk W.w ops)
 | .seq a b => codeOk W n a && codeOk W n b
 | .cond _ a b => codeOk W n a && codeOk W n b
 | .block _ c => codeOk W n c
 | .loop c => codeOk W n c
 | .scope c => codeOk W n c
 | _ => true
theorem Pf {P : Program} {W : FuncId → Bool} {st : St} {dst : Option Tmp} {o : Op} {K : St → Prop} (h : opK P W st dst o K) : ∃ x st', OpStep P W st o x st' ∧ K (st'.put dst x) := by
 unfold opK at h
 split at h
 ·exact h
 ·rename_i o' hne
  split at h
  ·rename_i p hp
   refine ⟨p.1, p.2, ?_, h⟩
   unfold OpStep
   split
   ·rename_i f args ts; exact absurd rfl (hne f args ts)
   ·exact hp
  ·cases h
theorem HT {P : Program} {W : FuncId → Bool} {ops : Array Oper} : ∀ (os : List Oper) (k : Nat) (st : St) (K : St → Prop), ops.toList.drop k = os → wpos P W ops os st K → ∃ st2, Run P W ops (List.range' k os.length) st st2 ∧ K st2
 | [], k, st, K, _, h => ⟨st, .nil st, h⟩
 | o :: os, k, st, K, hd, h => by
  have ho : ops[k]? = some o := by
   have : ops.toList[k]? = some o := by
    have := congrArg (·[0]?) hd
    simpa using this
   simpa using this
  have hd' : ops.toList.drop (k + 1) = os := by
   have := congrArg (List.drop 1) hd
   simpa [List.drop_drop, Nat.add_comm] using this
  simp only [wpos, wpo] at h
  cases hg : guardA ops st o with
  | none => rw [hg] at h; exact h.elim
  | some g =>
   rw [hg] at h
   cases g with
   | true =>
    obtain ⟨x, st1, h1, h2⟩ := Pf (h.1 rfl)
    obtain ⟨st2, h3, h4⟩ := HT os (k + 1) _ K hd' h2
    exact ⟨st2, by rw [List.length_cons, List.range'_succ]; exact .cons ho (.inl ⟨hg, st1, h1, rfl⟩) h3, h4⟩
   | false =>
    obtain ⟨st2, h3, h4⟩ := HT os (k + 1) _ K hd' (h.2 rfl)
    exact ⟨st2, by rw [List.length_cons, List.range'_succ]; exact .cons ho (.inr ⟨hg, rfl, rfl⟩) h3, h4⟩
def QR (P : Program) (n : Nat) (Q : Ex → St → Prop) (E : Env) : Exit → Act → World → Prop := fun e a' w' =>
 ∃ x st' E', e = Ex.to x ∧ Q x st' ∧ w' = E'.w ∧ Rel P E' st' a' ∧ a'.tmps.size = n ∧ a'.defers = [] ∧ E.Le E' ∧ Goes P E E'
theorem QR.back {P : Program} {n : Nat} {Q : Ex → St → Prop} {E E1 : Env} (hE : Ok P E) (hle : E.Le E1) (hgo : Goes P E E1) {e : Exit} {a : Act} {w : World} (h : QR P n Q E1 e a w) : QR P n Q E e a w := by
 obtain ⟨x, st', E', h1, h2, h3, h4, h5, h6, h7, h8⟩ := h
 exact ⟨x, st', E', h1, h2, h3, h4, h5, h6, hle.trans h7, hgo.trans hE h8⟩
theorem BW {P : Program} {W : WP} {n : Nat} (hm : P.follows .mixedOrders = true) : ∀ (c : Code), codeOk W n c = true → ∀ (st : St) (Q : Ex → St → Prop) (a : Act) (E : Env), wpc P W c st Q → Rel P E st a → a.tmps.size = n → a.defers = [] → c.wp P (QR P n Q E) a E.w
 | .skip, _, st, Q, a, E, h, hR, hn, hd => wp_skip ⟨.normal, st, E, rfl, h, rfl, hR, hn, hd, .refl E, .refl P E⟩
 | .label _, _, st, Q, a, E, h, hR, hn, hd => wp_label ⟨.normal, st, E, rfl, h, rfl, hR, hn, hd, .refl E, .refl P E⟩
 | .exit id, _, st, Q, a, E, h, hR, hn, hd => wp_exit ⟨.exit id, st, E, rfl, h, rfl, hR, hn, hd, .refl E, .refl P E⟩
 | .ret, _, st, Q, a, E, h, hR, hn, hd => wp_ret ⟨.ret, st, E, rfl, h, rfl, hR, hn, hd, .refl E, .refl P E⟩
 | .region id ops draw, hok, st, Q, a, E, h, hR, hn, hd => by
  simp only [codeOk, Bool.and_eq_true] at hok
  have hdst : ∀ o ∈ ops, ∀ d, o.dst = some d → d < n := by
   intro o ho d hd'
   have := Array.all_eq_true_iff_forall_mem.1 hok.1 o ho
   rw [hd'] at this; simpa using this
  simp only [wpc] at h
  obtain ⟨st2, hrun, hq⟩ := HT ops.toList 0 st _ zS h
  have hlen : ops.toList.length = ops.size := by simp
  rw [hlen] at hrun
  cases draw with
  | false =>
   refine wp_region ?_
   rw [List.range_eq_range']
   exact OF hdst _ st st2 E a hrun hR hn fun a' E' k1 k2 k3 k4 k5 => ⟨.normal, st2, E', rfl, hq.2, rfl, k1, k2, by rw [k3, hd], k4, k5⟩
  | true =>
   obtain ⟨s, x, e1, e2, h3⟩ := hrun.toF
   rw [Nat.zero_add] at e2
   have hF : RunF P W.w ops s x := fun i o ho => h3 i o (Nat.zero_le _) (by
    rcases Nat.lt_or_ge i ops.size with h | h
    ·omega
    ·rw [Array.getElem?_eq_none h] at ho; cases ho) ho
   refine wp_region_any hm ?_
   obtain ⟨d1, d2, d3⟩ := HI hR.ok
   cases hds : W.d id with
   | none =>
    have hdr : drawOk W.w ops = true := by have := hok.2; rw [hds] at this; simpa using this
    refine PZ (w0 := E) hdr hF hdst (fun a' E' k1 k2 k3 k4 k5 => ?_) ops.size (Array.replicate ops.size false) a ⟨drewW E.w, E.I, E.m, E.h, E.nx⟩ st zS zS ⟨d2, hR.h, hR.nx, hR.fr.mono d1⟩ hn hd hR.ok d1 d3 ?_
    ·exact ⟨.normal, st2, E', rfl, hq.2, rfl, by rw [← e2]; exact k1, k2, k3, k4, k5⟩
    ·have hno : ∀ i, ¬ Lis (Array.replicate ops.size false) i := by
      intro i hi
      unfold Lis at hi
      rw [Array.getD_eq_getD_getElem?, Array.getElem?_replicate] at hi
      split at hi <;> simp at hi
     exact ⟨fun j hj => absurd hj (hno j), fun j hj => absurd hj (hno j), fun t => .inr ⟨fun i hi => absurd hi (hno i), by rw [e1]⟩, 0, Nat.zero_le _, by rw [e1], by rw [e1], fun i o _ _ => ⟨fun h => absurd h (hno i), fun h => absurd h zO⟩⟩
   | some ps =>
    have hok2 := hok.2
    rw [hds] at hok2
    simp only [Bool.not_true, Bool.false_or] at hok2
    have hq1 := hq.1
    rw [hds] at hq1
    by_cases hlk : isLk ps = true
    ·simp only [hlk, if_true] at hok2
     simp only [dOk, lh, hlk, if_true] at hq1
     have hno : ∀ i, ¬ Lis (Array.replicate ops.size false) i := by
      intro i hi
      unfold Lis at hi
      rw [Array.getD_eq_getD_getElem?, Array.getElem?_replicate] at hi
      split at hi <;> simp at hi
     by_cases hlv : isLv ps = true
     ·simp only [hlv, if_true] at hok2 hq1
      refine GH (w0 := E) (FI hok2).1 hF (fun _ _ hD _ _ ho hni hr => Ke hok2 (by rw [e1, e2]; exact hq1) hF hD ho hni hr) hdst (fun a' E' k1 k2 k3 k4 k5 => ?_) ops.size (Array.replicate ops.size false) a ⟨drewW E.w, E.I, E.m, E.h, E.nx⟩ st zS zS ⟨d2, hR.h, hR.nx, hR.fr.mono d1⟩ hn hd hR.ok d1 d3 ?_
      ·exact ⟨.normal, st2, E', rfl, hq.2, rfl, by rw [← e2]; exact k1, k2, k3, k4, k5⟩
      ·exact ⟨fun j hj => absurd hj (hno j), fun j hj => absurd hj (hno j), fun t => .inr ⟨fun i hi => absurd hi (hno i), by rw [e1]⟩, 0, Nat.zero_le _, by rw [e1], by rw [e1], fun i o _ _ => ⟨fun h => absurd h (hno i), fun h => absurd h zO⟩⟩
     ·simp only [hlv, Bool.false_eq_true, if_false] at hok2 hq1
      refine GH (w0 := E) (Dn hok2).1 hF (fun _ _ hD _ _ ho hni hr => Kc hok2 (by rw [e1, e2]; exact hq1) hF hD ho hni hr) hdst (fun a' E' k1 k2 k3 k4 k5 => ?_) ops.size (Array.replicate ops.size false) a ⟨drewW E.w, E.I, E.m, E.h, E.nx⟩ st zS zS ⟨d2, hR.h, hR.nx, hR.fr.mono d1⟩ hn hd hR.ok d1 d3 ?_
      ·exact ⟨.normal, st2, E', rfl, hq.2, rfl, by rw [← e2]; exact k1, k2, k3, k4, k5⟩
      ·exact ⟨fun j hj => absurd hj (hno j), fun j hj => absurd hj (hno j), fun t => .inr ⟨fun i hi => absurd hi (hno i), by rw [e1]⟩, 0, Nat.zero_le _, by rw [e1], by rw [e1], fun i o _ _ => ⟨fun h => absurd h (hno i), fun h => absurd h zO⟩⟩
    simp only [hlk, Bool.false_eq_true, if_false, Bool.and_eq_true] at hok2
    simp only [dOk, hlk, Bool.false_eq_true, if_false] at hq1
    have hca : ∀ (i : Nat) (o : Oper), ops[i]? = some o → (match kdOf o.op with | .call _ => !isW W.w o.op | .new => o.dst.isSome | _ => true) = true := fun i o ho =>
     Array.all_eq_true_iff_forall_mem.1 hok2.2 o (Array.mem_of_getElem? ho)
    have H : DHyp P W.w ops s x ps := ⟨hok2.1, hF, by rw [e2]; exact hq1.1, by rw [e2]; exact hq1.2, fun id hid => by
      rw [e1] at hid ⊢
      cases hl : (st.h id).lv with
      | false => rfl
      | true =>
       have hb := (hR.ok.blk id (by rw [← hR.h]; exact hl)).lt
       rw [← hR.nx] at hb; omega, fun i o as0 ho hk => by have := hca i o ho; rw [hk] at this; simpa using this⟩
    refine Wz (w0 := E) (E := ⟨drewW E.w, E.I, E.m, E.h, E.nx⟩) H (fun i o ho hk => by have := hca i o ho; rw [hk] at this; simpa using this) hdst hR.ok (by rw [e1]; exact hR.nx.symm) d1 d3 (by rw [e1]; exact ⟨d2, hR.h, hR.nx, hR.fr.mono d1⟩) hn hd (fun a' E' k1 k2 k3 k4 k5 => ?_)
    exact ⟨.normal, st2, E', rfl, hq.2, rfl, by rw [← e2]; exact k1, k2, k3, k4, k5⟩
 | .seq c1 c2, hok, st, Q, a, E, h, hR, hn, hd => by
  simp only [codeOk, Bool.and_eq_true] at hok
  simp only [wpc] at h
  refine wp_seq (wp_mono (BW hm c1 hok.1 st _ a E h hR hn hd) fun e a' w' hq => ?_)
  obtain ⟨x, st', E', rfl, h2, rfl, h4, h5, h6, h7, h8⟩ := hq
  cases x with
  | normal => exact wp_mono (BW hm c2 hok.2 st' Q a' E' h2 h4 h5 h6) fun e a' w' hq => hq.back hR.ok h7 h8
  | exit id => exact ⟨.exit id, st', E', rfl, h2, rfl, h4, h5, h6, h7, h8⟩
  | ret => exact ⟨.ret, st', E', rfl, h2, rfl, h4, h5, h6, h7, h8⟩
 | .cond c x y, hok, st, Q, a, E, h, hR, hn, hd => by
  simp only [codeOk, Bool.and_eq_true] at hok
  simp only [wpc] at h
  split at h
  ·rename_i t ht
   have hc := HG hR.fr c
   rw [ht] at hc
   refine wp_cond_split (Dp hc) (fun e => BW hm x hok.1 st Q a E (h.1 e) hR hn hd) (fun e => BW hm y hok.2 st Q a E (h.2 e) hR hn hd)
  ·cases h
 | .block id c, hok, st, Q, a, E, h, hR, hn, hd => by
  simp only [codeOk] at hok
  simp only [wpc] at h
  refine wp_block (wp_mono (BW hm c hok st _ a E h hR hn hd) fun e a' w' hq => ?_)
  obtain ⟨x, st', E', rfl, h2, rfl, h4, h5, h6, h7, h8⟩ := hq
  cases x with
  | normal => exact ⟨.normal, st', E', rfl, h2, rfl, h4, h5, h6, h7, h8⟩
  | ret => exact ⟨.ret, st', E', rfl, h2, rfl, h4, h5, h6, h7, h8⟩
  | exit i =>
   simp only [Ex.inB] at h2
   simp only [Ex.to, Exit.inBlock]
   split
   ·rename_i hi; rw [if_pos hi] at h2; exact ⟨.normal, st', E', rfl, h2, rfl, h4, h5, h6, h7, h8⟩
   ·rename_i hi; rw [if_neg hi] at h2; exact ⟨.exit i, st', E', rfl, h2, rfl, h4, h5, h6, h7, h8⟩
 | .scope c, hok, st, Q, a, E, h, hR, hn, hd => by
  simp only [codeOk] at hok
  simp only [wpc] at h
  refine wp_scope_straight (wp_mono (BW hm c hok st _ a E h hR hn hd) fun e a' w' hq => ?_)
  obtain ⟨x, st', E', rfl, h2, rfl, h4, h5, h6, h7, h8⟩ := hq
  cases x with
  | normal => exact ⟨.normal, st', E', rfl, h2, rfl, h4, h5, h6, h7, h8⟩
  | ret => exact ⟨.ret, st', E', rfl, h2, rfl, h4, h5, h6, h7, h8⟩
  | exit i => exact ⟨.exit i, st', E', rfl, h2, rfl, h4, h5, h6, h7, h8⟩
 | .loop c, hok, st, Q, a, E, h, hR, hn, hd => by
  simp only [codeOk] at hok
  simp only [wpc] at h
  have key := h (fun st => ∀ (a : Act) (E1 : Env), Rel P E1 st a → a.tmps.size = n → a.defers = [] → E.Le E1 → Goes P E E1 → ∀ (b : Frame) (k : List Item) (cs : List Frame),
   ∃ e a' w', QR P n Q E e a' w' ∧ Arrives P (lone (b.at a (.code c :: .inLoop c :: k)) cs E1.w) b k cs e a' w') (fun st hst => by
    intro a E1 hR1 hn1 hd1 hle hgo b k cs
    obtain ⟨e, a', w', hq, harr⟩ := BW hm c hok st _ a E1 hst hR1 hn1 hd1 b (.inLoop c :: k) cs
    obtain ⟨x, st', E', rfl, h2, rfl, h4, h5, h6, h7, h8⟩ := hq
    cases x with
    | normal =>
     obtain ⟨e2, a2, w2, hq2, harr2⟩ := h2 a' E' h4 h5 h6 (hle.trans h7) (hgo.trans hR.ok h8) b k cs
     exact ⟨e2, a2, w2, hq2, .of_steps (Steps.trans harr (.one step_inLoop)) harr2⟩
    | exit id => exact ⟨_, a', E'.w, ⟨.exit id, st', E', rfl, h2, rfl, h4, h5, h6, hle.trans h7, hgo.trans hR.ok h8⟩, .pass (x := .inLoop c) rfl (fun _ _ => .inl (by simp [Ex.to])) harr⟩
    | ret => exact ⟨_, a', E'.w, ⟨.ret, st', E', rfl, h2, rfl, h4, h5, h6, hle.trans h7, hgo.trans hR.ok h8⟩, .pass (x := .inLoop c) rfl (fun _ _ => .inl (by simp [Ex.to])) harr⟩)
  intro b k cs
  obtain ⟨e, a', w', hq, harr⟩ := key a E hR hn hd (.refl E) (.refl P E) b k cs
  exact ⟨e, a', w', hq, .of_steps (.one step_loop) harr⟩
 | .goto _, _, _, _, _, _, h, _, _, _ => by simp [wpc] at h
 | .refuse _, _, _, _, _, _, h, _, _, _ => by simp [wpc] at h
 | .rangeFunc .., _, _, _, _, _, h, _, _, _ => by simp [wpc] at h
def st00 : St := ⟨fun _ => .undef, fun _ => Blk.dead, 0⟩
def stIn (args : List AV) : St := { (matL false args st00).2 with fr := fun i => (matL false args st00).1.getD i .undef }
def resA (P : Program) (st : St) : ResultVar → Option AV
 | .tmp t => some (st.fr t)
 | .cell a t => if okT P t then loadA P st t (st.fr a) else none
def resL (P : Program) (st : St) : List ResultVar → Option (List AV)
 | [] => some []
 | r :: rs => (resA P st r).bind fun v => (resL P st rs).bind fun vs => some (v :: vs)
def resV (P : Program) (st : St) (rs : List ResultVar) : Option AV :=
 (resL P st rs).bind fun vs => match vs with
  | [v] => some v
  | vs => some (.tup vs)
def Post (P : Program) (fn : Func) (n0 : Nat) (fl md : Bool) (r : AV) (outs : List (List AV)) (e : Ex) (st : St) : Prop :=
 (match e with | .exit _ => False | _ => True) ∧ ∃ v, resV P st fn.results.toList = some v ∧ ∃ ids, (if md = true then ownA st 8 v = some (r, ids) ∧ ids.Nodup else snapA st 8 v = some (r, ids) ∧ ∀ i ∈ ids, n0 ≤ i) ∧
  (outs = [] ∨ fl = true ∧ outs.length = n0 ∧ ∀ k, k < n0 → (st.h k).lv = true ∧ outs[k]? = some (st.h k).xs ∧ AV.pureL (st.h k).xs = true)
theorem HU {P : Program} {E : Env} {st : St} {a : Act} (hR : Rel P E st a) : ∀ (rs : List ResultVar) (vs : List AV), resL P st rs = some vs →
  ∃ us, (∀ g : ResultVar → Sem Value, (∀ t, g (.tmp t) = pure (a.tmps.getD t undef)) → (∀ x t, g (.cell x t) = do loadVar t (← asAddr (a.tmps.getD x undef))) → (rs.mapM g).run P E.w = .ok us E.w) ∧ repL P E vs us
 | [], vs, h => by simp only [resL, Option.some.injEq] at h; subst h; exact ⟨[], fun g _ _ => by simp, by simp [repL]⟩
 | r :: rs, vs, h => by
  simp only [resL] at h
  obtain ⟨v, hv, h⟩ := Option.bind_eq_some_iff.1 h
  obtain ⟨ws, hw, h⟩ := Option.bind_eq_some_iff.1 h
  cases h
  obtain ⟨us, h1, h2⟩ := HU hR rs ws hw
  cases r with
  | tmp t =>
   simp only [resA, Option.some.injEq] at hv
   refine ⟨a.tmps.getD t undef :: us, fun g g1 g2 => ?_, by simp only [repL]; exact ⟨_, _, rfl, by rw [← hv]; exact hR.fr t, h2⟩⟩
   simp only [List.mapM_cons, Sem.run_bind, g1, Sem.run_pure, Result.andThen_ok, h1 g g1 g2]
  | cell x t =>
   simp only [resA] at hv
   split at hv
   ·rename_i hok
    obtain ⟨u, k1, k2⟩ := HH hR.ok hR.h hok hv (hR.fr x)
    refine ⟨u :: us, fun g g1 g2 => ?_, by simp only [repL]; exact ⟨_, _, rfl, k2, h2⟩⟩
    have hptr : ∃ ad, a.tmps.getD x undef = .pointer (some ad) := by
     have hx := hR.fr x
     unfold loadA at hv
     split at hv
     ·rename_i q1 q2 q3 hq
      rw [hq] at hx; simp only [rep] at hx
      obtain ⟨b, off, c, fz, u, hu, _⟩ := hx; exact ⟨_, hu⟩
     ·rename_i q0 q1 q2 q3 hq
      rw [hq] at hx; simp only [rep] at hx
      obtain ⟨_, _, ad, hu, _⟩ := hx; exact ⟨_, hu⟩
     ·cases hv
    obtain ⟨ad, had⟩ := hptr
    rw [had] at k1
    have hl : (loadVar t ad).run P E.w = .ok u E.w := by simpa [Instr.loadAt, Instr.sureAddr] using k1
    simp only [List.mapM_cons, Sem.run_bind, g2, had, asAddr, Sem.run_pure, Result.andThen_ok, hl, h1 g g1 g2]
   ·cases hv
theorem DW {P : Program} {E : Env} {st : St} {a : Act} {fn : Func} {v : AV} (hR : Rel P E st a) (h : resV P st fn.results.toList = some v) : ∃ u, (results fn a.tmps).run P E.w = .ok u E.w ∧ rep P E v u := by
 unfold resV at h
 obtain ⟨vs, hv, h⟩ := Option.bind_eq_some_iff.1 h
 obtain ⟨us, h1, h2⟩ := HU hR _ _ hv
 refine ⟨if hs : us.toArray.size = 1 then us.toArray[0] else .tuple us.toArray, ?_, ?_⟩
 ·unfold results
  rw [Array.mapM_eq_mapM_toList]
  simp only [Sem.run_bind, Sem.run_map]
  rw [h1 _ (fun _ => rfl) (fun _ _ => rfl)]
  rfl
 ·split at h
  ·rename_i x
   cases h
   simp only [repL] at h2
   obtain ⟨u, us', rfl, h3, rfl⟩ := h2
   simpa using h3
  ·rename_i hne
   cases h
   have hl : ¬ us.toArray.size = 1 := by
    intro hs
    have := AO h2
    have hs' : us.length = 1 := by simpa using hs
    rw [hs'] at this
    match vs, this with
    | [y], _ => exact hne y rfl
   rw [dif_neg hl]
   simp only [rep]; exact ⟨us, rfl, h2⟩
theorem Pg {P : Program} {E0 E : Env} {L : List OLoc} {w0 : World} (hw : E0.w = w0) (hE0 : Ok P E0) (hg : Goes P E0 E) (hold : ∀ id, (E0.h id).lv = true → ∃ o ∈ L, E0.m id = o.l ∧ (E0.h id).t = o.t ∧ (E0.h id).xs.length = o.n ∧ (E0.h id).gr = false)
  (hL : ∀ o ∈ L, ∃ c, w0.heap[o.l.b]? = some (.cells c o.t (0, 0))) (hnd : (L.map (·.l.b)).Nodup) : Frm P w0 E.w L := by
 subst hw
 have huniq : ∀ o ∈ L, ∀ o' ∈ L, o.l.b = o'.l.b → o = o' := by
  intro o ho o' ho' e
  obtain ⟨i, hi⟩ := List.getElem?_of_mem ho
  obtain ⟨j, hj⟩ := List.getElem?_of_mem ho'
  have hi' : (L.map (·.l.b))[i]? = some o.l.b := by rw [List.getElem?_map, hi]; rfl
  have hj' : (L.map (·.l.b))[j]? = some o.l.b := by rw [List.getElem?_map, hj, e]; rfl
  have hij : i = j := by
   have hil : i < (L.map (·.l.b)).length := by
    rcases Nat.lt_or_ge i (L.map (·.l.b)).length with h | h
    ·exact h
    ·rw [List.getElem?_eq_none h] at hi'; cases hi'
   exact (List.getElem?_inj hil hnd).1 (hi'.trans hj'.symm)
  subst hij
  rw [hi] at hj; cases hj; rfl
 refine ⟨hg.os, hg.tape, hg.output, hg.size, fun b hb hn => hg.keep b hb fun id hid e => ?_, fun o ho c hc => ?_⟩
 ·obtain ⟨o, ho, h1, _⟩ := hold id hid
  exact hn o ho (by rw [← h1]; exact e)
 ·by_cases hm : ∃ id, (E0.h id).lv = true ∧ (E0.m id).b = o.l.b
  ·obtain ⟨id, hid, hb⟩ := hm
   obtain ⟨o', ho', h1, h2, h3, h4⟩ := hold id hid
   have := huniq o' ho' o ho (by rw [← h1]; exact hb)
   subst this
   obtain ⟨c', p1, p2, p3⟩ := hg.part id hid c (by rw [h1, h2]; exact hc)
   rw [h1, h2] at p1 p3
   have hlim : E0.lim id = o'.n := by simp [Env.lim, h4, h3]
   rw [hlim] at p3
   exact ⟨c', p1, p2, p3⟩
  ·refine ⟨c, (hg.keep o.l.b (BC hc) fun id hid e => hm ⟨id, hid, e⟩).trans hc, rfl, fun _ _ => rfl⟩
mutual
theorem ON {P : Program} {E : Env} : ∀ (x : AV) (v : Value) (L : List OLoc), ownR P E x v L → ∀ o ∈ L, ∃ c, E.w.heap[o.l.b]? = some (.cells c o.t (0, 0))
 | .own t xs sp ex, v, L, h, o, ho => by
  simp only [ownR] at h
  obtain ⟨l, L1, L2, vs, us, c, ad, rfl, _, _, _, _, _, _, h8, h9, h10, _⟩ := h
  simp only [List.mem_cons, List.mem_append] at ho
  rcases ho with rfl | ho | ho
  ·exact ⟨c, h10⟩
  ·exact Ch xs vs L1 h8 o ho
  ·exact Ch sp us L2 h9 o ho
 | .agg cs, v, L, h, o, ho => by simp only [ownR] at h; obtain ⟨vs, _, h2⟩ := h; exact Ch cs vs L h2 o ho
 | .tup cs, v, L, h, o, ho => by simp only [ownR] at h; obtain ⟨vs, _, h2⟩ := h; exact Ch cs vs L h2 o ho
 | .undef, v, L, h, o, ho => by simp only [ownR] at h; subst h; simp at ho
 | .bool b, v, L, h, o, ho => by simp only [ownR] at h; rw [h.1] at ho; simp at ho
 | .int k n, v, L, h, o, ho => by simp only [ownR] at h; rw [h.1] at ho; simp at ho
 | .str s, v, L, h, o, ho => by simp only [ownR] at h; rw [h.1] at ho; simp at ho
 | .nil, v, L, h, o, ho => by simp only [ownR] at h; rw [h.1] at ho; simp at ho
 | .sl t xs sp ex, v, L, h, o, ho => by simp only [ownR] at h; rw [h.1] at ho; simp at ho
 | .cptr t x j, v, L, h, o, ho => by simp only [ownR] at h; rw [h.1] at ho; simp at ho
 | .fn f a b, v, L, h, o, ho => by simp only [ownR] at h; rw [h.1] at ho; simp at ho
 | .ref .., v, L, h, o, ho => by simp [ownR] at h
 | .ptr .., v, L, h, o, ho => by simp [ownR] at h
theorem Ch {P : Program} {E : Env} : ∀ (xs : List AV) (vs : List Value) (L : List OLoc), ownRL P E xs vs L → ∀ o ∈ L, ∃ c, E.w.heap[o.l.b]? = some (.cells c o.t (0, 0))
 | [], vs, L, h, o, ho => by simp only [ownRL] at h; rw [h.2] at ho; simp at ho
 | x :: xs, vs, L, h, o, ho => by
  simp only [ownRL] at h
  obtain ⟨v, us, L1, L2, _, rfl, h3, h4⟩ := h
  rcases List.mem_append.1 ho with ho | ho
  ·exact ON x v L1 h3 o ho
  ·exact Ch xs us L2 h4 o ho
end
theorem Ac {P : Program} {W : WP} {f : FuncId} {fn : Func} {c : Code} {args : List AV} {r : AV} {outs : List (List AV)} (md : Bool) (hm : P.follows .mixedOrders = true) (hf : P.funcs[f]? = some fn) (hb : fn.body = some c)
  (hok : codeOk W fn.ntmps c = true) (hn : args.length ≤ fn.ntmps) (h : wpc P W c (stIn args) (Post P fn (matL false args st00).2.nx (AV.flatL args) md r outs)) : CallOk P f args r outs := by
 intro w I vs L hI hown hnd
 have hbare : Ok P (bare w I) := R5 hI
 obtain ⟨m', M, hrep, hfr, hflat⟩ := Cg (g := false) args vs L st00 (bare w I) hbare rfl rfl hown ⟨hnd, fun o _ id hid => by simp [bare, Blk.dead] at hid⟩ (fun h => by cases h)
 obtain ⟨E0, hE0⟩ : ∃ E0 : Env, E0 = ⟨w, I, m', (matL false args st00).2.h, (matL false args st00).2.nx⟩ := ⟨_, rfl⟩
 have M' : MatOk P false (bare w I) E0 L := by rw [hE0]; exact M
 have hrep' : repL P E0 (matL false args st00).1 vs := by rw [hE0]; exact hrep
 have hvl : vs.length = args.length := C8 args vs L hown
 have hold : ∀ id, (E0.h id).lv = true → ∃ o ∈ L, E0.m id = o.l ∧ (E0.h id).t = o.t ∧ (E0.h id).xs.length = o.n ∧ (E0.h id).gr = false := by
  intro id hid
  rcases M'.new id hid with ⟨h, _⟩ | h
  ·simp [bare, Blk.dead] at h
  ·exact h
 have hgr : ∀ id, id < E0.nx → (E0.h id).lv = true → (E0.h id).gr = false := fun id _ hid => by obtain ⟨o, _, _, _, _, h⟩ := hold id hid; exact h
 have hargl : (matL false args st00).1.length = args.length := by rw [← AO hrep', hvl]
 refine calls_of_wp hf hb ?_
 have hR : Rel P E0 (stIn args) { tmps := vs.toArray ++ Array.replicate (fn.ntmps - vs.toArray.size) undef, defers := [] } := by
  refine ⟨M'.ok, by rw [hE0]; rfl, by rw [hE0]; rfl, fun t => ?_⟩
  simp only [stIn]
  by_cases ht : t < args.length
  ·have h1 : (matL false args st00).1[t]? = some ((matL false args st00).1[t]'(by omega)) := List.getElem?_eq_getElem zO
   obtain ⟨v, hv, hr⟩ := BI hrep' t _ h1
   rw [List.getD_eq_getElem?_getD, h1, Array.getD_eq_getD_getElem?, Array.getElem?_append_left zW]
   have : vs.toArray[t]? = some v := by simpa using hv
   rw [this]; exact hr
  ·rw [List.getD_eq_getElem?_getD, List.getElem?_eq_none zO]
   simp [rep]
 have hsize : (vs.toArray ++ Array.replicate (fn.ntmps - vs.toArray.size) undef).size = fn.ntmps := by
  simp; omega
 have W0 := BW hm c hok (stIn args) _ _ E0 h hR hsize rfl
 have hw0 : E0.w = w := by rw [hE0]
 rw [hw0] at W0
 refine wp_mono W0 fun e a' w' hq => ?_
 obtain ⟨x, st', E', rfl, hpost, rfl, hR', hn', hd', hle, hgo⟩ := hq
 obtain ⟨hx, v, hv, ids, hids, hout⟩ := hpost
 obtain ⟨u, hres, hru⟩ := DW hR' hv
 have hfrm : Frm P w E'.w L := Pg hw0 M'.ok hgo hold (fun o ho => by
  have := Ch args vs L hown o ho
  exact this) hnd
 have hmb : ∀ id, (E'.h id).lv = true → (E'.m id).b < E'.w.heap.size := fun id h => by
  obtain ⟨c, vs, h1, _⟩ := (hR'.ok.blk id h).at_; exact BC h1
 have hI0 : E0.I = I := by rw [hE0]
 have hnx0 : E0.nx = (matL false args st00).2.nx := by rw [hE0]
 have hfresh : ∀ id, (E'.h id).lv = true → (E0.nx ≤ id ∨ (E'.h id).gr = true) → w.heap.size ≤ (E'.m id).b := by
  intro id hid hc
  rcases hgo.locs id hid with ⟨h1, h2, _, _⟩ | ⟨h1, _⟩
  ·have hlt := (M'.ok.blk id h1).lt
   rcases hc with hc | hc
   ·omega
   ·rw [hgo.grs id hlt, hgr id hlt h1] at hc; cases hc
  ·rw [hw0] at h1; exact h1
 have hdark1 : ∀ b, I b → E'.I b := fun b hb => (hle.imm b (by rw [hI0]; exact hb)).1
 have hdark2 : ∀ b, E'.I b → I b ∨ w.heap.size ≤ b := fun b hb => by
  have := hgo.dark b hb
  rw [hI0, hw0] at this
  rcases this with h | h | ⟨id, h1, h2, _⟩
  ·exact .inl h
  ·exact .inr h
  ·rw [hgr id (M'.ok.blk id h1).lt h1] at h2; cases h2
 have outs_ok : ∀ (I' : Nat → Prop), (∀ b, E'.I b → I' b) → (outs = [] ∨ outs.length = L.length ∧ ∀ (k : Nat) (o : OLoc) (ys : List AV), L[k]? = some o → outs[k]? = some ys → outOk P (bare E'.w I') o ys) := by
  intro I' hI'
  rcases hout with h | ⟨hfl, hlen, hall⟩
  ·exact .inl h
  ·obtain ⟨hnxL, hmap⟩ := hflat hfl
   have hnx : (matL false args st00).2.nx = L.length := by rw [hnxL]; simp [bare]
   refine .inr ⟨by rw [hlen, hnx], fun k o ys hk hy => ?_⟩
   have hkl : k < L.length := by
    rcases Nat.lt_or_ge k L.length with h | h
    ·exact h
    ·rw [List.getElem?_eq_none h] at hk; cases hk
   obtain ⟨a1, a2, a3⟩ := hall k zO
   rw [hR'.h] at a1 a2 a3
   rw [a2] at hy; cases hy
   have hm0 : E0.m k = o.l := by
    have := hmap k o hk
    rw [hE0]; simpa [bare] using this
   rcases hgo.locs k a1 with ⟨h1, h2, h3, h4⟩ | ⟨_, h2⟩
   ·obtain ⟨o', ho', k1, k2, k3, k4⟩ := hold k h1
    have hoo : o' = o := by
     obtain ⟨j, hj⟩ := List.getElem?_of_mem ho'
     have e1 : (L.map (·.l.b))[j]? = some o'.l.b := by rw [List.getElem?_map, hj]; rfl
     have e2 : (L.map (·.l.b))[k]? = some o'.l.b := by rw [List.getElem?_map, hk]; show some o.l.b = _; rw [← hm0, k1]
     have hjl : j < (L.map (·.l.b)).length := by
      rcases Nat.lt_or_ge j (L.map (·.l.b)).length with h | h
      ·exact h
      ·rw [List.getElem?_eq_none h] at e1; cases e1
     have := (List.getElem?_inj hjl hnd).1 (e1.trans e2.symm)
     subst this
     rw [hj] at hk; cases hk; rfl
    subst hoo
    have hlen : (E'.h k).xs.length = o'.n := by
     simp only [Env.lim, k4, hgo.grs k (M'.ok.blk k h1).lt, Bool.false_eq_true, if_false] at h4
     rw [h4, k3]
    have B := hR'.ok.blk k a1
    obtain ⟨c1, ws, q1, q2, q3, _⟩ := B.at_
    refine ⟨hlen, a3, fun y hy => by rw [← k2, ← h3]; exact B.cl y hy, c1, ws, ?_, ?_, ?_⟩
    ·rw [← k1, ← h2, ← k2, ← h3]; exact q1
    ·exact BP (E := E') (E' := bare E'.w I') (fun b hb => ⟨hI' b hb, rfl⟩) _ _ a3 q2
    ·rw [← k1, ← h2, ← k2, ← h3]; exact q3
   ·rcases h2 with h2 | h2
    ·rw [hnx0] at h2; omega
    ·have hlt : k < E0.nx := by rw [hnx0]; omega
     have hlv := (DH false args st00).2.2 k (Nat.zero_le _) zO
     have hlv' : (E0.h k).lv = true := by rw [hE0]; exact hlv
     rw [hgr k hlt hlv'] at h2; cases h2
 have hend : bodyPost P fn (fun e w' => ∃ v I' L', e = .returned v ∧ Frm P w w' L ∧ (∀ b, I b → I' b) ∧ (∀ b, I' b → I b ∨ w.heap.size ≤ b) ∧ (∀ b, I' b → b < w'.heap.size) ∧
   ownR P (bare w' I') r v L' ∧ (L'.map (·.l.b)).Nodup ∧ (∀ o ∈ L', w.heap.size ≤ o.l.b ∧ o.l.base = 0) ∧
   (outs = [] ∨ outs.length = L.length ∧ ∀ (k : Nat) (o : OLoc) (ys : List AV), L[k]? = some o → outs[k]? = some ys → outOk P (bare w' I') o ys)) .ret a' E'.w := by
  refine ⟨hd', u, hres, ?_⟩
  cases md with
  | true =>
   simp only [if_true] at hids
   obtain ⟨L', q1, q2, q3, q4⟩ := FQ hR'.ok hR'.h 8 v r ids u hids.1 hru
   refine ⟨u, E'.I, L', rfl, hfrm, hdark1, hdark2, hR'.ok.imm, GC (E := E') (E' := bare E'.w E'.I) rfl rfl _ _ _ q1, ?_, fun o ho => ?_, outs_ok _ (fun _ h => h)⟩
   ·have e : L'.map (·.l.b) = ids.map fun i => (E'.m i).b := by
     have := congrArg (List.map Loc.b) q3
     simpa [List.map_map, Function.comp_def] using this
    rw [e]
    have inj : ∀ (ids : List Nat), (∀ i ∈ ids, (E'.h i).lv = true) → ids.Nodup → (ids.map fun i => (E'.m i).b).Nodup := by
     intro ids
     induction ids with
     | nil => simp
     | cons a ids ih =>
      intro hl hn
      simp only [List.nodup_cons, List.map_cons] at hn ⊢
      refine ⟨fun hm => ?_, ih (fun i hi => hl i (by simp [hi])) hn.2⟩
      obtain ⟨j, hj, e⟩ := List.mem_map.1 hm
      exact hn.1 (hR'.ok.inj j a (hl j (by simp [hj])) (hl a zS) e ▸ hj)
    exact inj ids (fun i hi => (q2 i hi).1) hids.2
   ·obtain ⟨a, ha, k1, _⟩ := q4 o ho
    obtain ⟨g1, g2⟩ := q2 a ha
    rw [k1]
    exact ⟨hfresh a g1 (.inr g2), (hR'.ok.blk a g1).gr g2⟩
  | false =>
   simp only [Bool.false_eq_true, if_false] at hids
   obtain ⟨q1, q2, q3⟩ := C1 hR'.ok hR'.h 8 v r ids u hids.1 hru
   refine ⟨u, (E'.shut ids).I, [], rfl, hfrm, fun b hb => .inl (hdark1 b hb), fun b hb => ?_, fun b hb => ?_, ?_, zS, zS, outs_ok _ (fun _ h => .inl h)⟩
   ·rcases hb with h | ⟨i, hi, h1, h2⟩
    ·exact hdark2 b h
    ·rw [← h2]; exact .inr (hfresh i h1 (.inl (by rw [hnx0]; exact hids.2 i hi)))
   ·rcases hb with h | ⟨i, hi, h1, h2⟩
    ·exact hR'.ok.imm b h
    ·rw [← h2]; exact hmb i h1
   ·exact Bw _ _ q1 (Bj (E := E'.shut ids) (E' := bare E'.w (E'.shut ids).I) (fun b hb => ⟨hb, rfl⟩) _ _ q1 q2)
 cases x with
 | normal => exact hend
 | ret => exact hend
 | exit i => exact hx.elim
theorem AB {P : Program} {W : FuncId → Bool} {f : FuncId} {fn : Func} {c : Code} {args : List AV} {r : AV} {outs : List (List AV)} (md : Bool) (hm : P.follows .mixedOrders = true) (hf : P.funcs[f]? = some fn) (hb : fn.body = some c)
 (hok : codeOk ⟨W, fun _ => none⟩ fn.ntmps c = true) (hn : args.length ≤ fn.ntmps) (h : wpc P ⟨W, fun _ => none⟩ c (stIn args) (Post P fn (matL false args st00).2.nx (AV.flatL args) md r outs)) : CallOk P f args r outs := Ac md hm hf hb hok hn h
def evA (fr : Nat → AV) : Operand → AV
 | .tmp t => fr t
 | .const v => ofVal v
 | .func f => .fn (.func f) [] []
 | .global _ => .undef
theorem zE {p : Prop} (h : p := by simp [evA, AA, ofVal, ofCell]) : p := h
theorem SC (fr : Nat → AV) (t : Nat) : evA fr (.tmp t) = fr t := (rfl : _ = _).trans rfl
theorem Ph (fr : Nat → AV) (t : Nat) : evA fr (.func t) = .fn (.func t) [] [] := (rfl : _ = _).trans rfl
theorem SD (fr : Nat → AV) (k : IntKind) (n : Int) : evA fr (.const (.int k n)) = .int k n := (rfl : _ = _).trans rfl
theorem Pi (fr : Nat → AV) (b : Bool) : evA fr (.const (.bool b)) = .bool b := (rfl : _ = _).trans rfl
theorem SE (fr : Nat → AV) (l : List UInt8) : evA fr (.const (.string ⟨l.toArray⟩)) = .str l := by simp [evA, ofVal, ofCell]
theorem SF (fr : Nat → AV) : evA fr (.const (.slice none 0 0)) = .nil := (rfl : _ = _).trans rfl
theorem Bq (fr : Nat → AV) (h : Nat → Blk) (nx : Nat) (x : Operand) : St.ev ⟨fr, h, nx⟩ x = evA fr x := rfl
section
variable {P : Program} {W : FuncId → Bool} {ops : Array Oper} {os : List Oper} {fr : Nat → AV} {h : Nat → Blk} {nx : Nat} {K : St → Prop} {d t : Nat} {p : String} {af : Array Edge}
theorem W4 : wpos P W ops [] ⟨fr, h, nx⟩ K = K ⟨fr, h, nx⟩ := (rfl : _ = _).trans rfl
theorem Au {st : St} {d : Option Tmp} {o : Op} (hn : ∀ f as0 ts, o ≠ .call { callee := .value f, args := as0, argTypes := ts }) :
  wpos P W ops (⟨d, o, t, p, af, none⟩ :: os) st K = match evalOp P st o with | some q => wpos P W ops os (q.2.put d q.1) K | none => False := by
 have : opK P W st d o (fun st' => wpos P W ops os st' K) = match evalOp P st o with | some q => wpos P W ops os (q.2.put d q.1) K | none => False := by
  unfold opK
  split
  ·rename_i f as0 ts; exact absurd rfl (hn f as0 ts)
  ·rfl
 simp [wpos, wpo, guardA, this]
theorem SG {st : St} {d : Option Tmp} {o : Op} {j : Nat} {b : Bool} :
  wpos P W ops (⟨d, o, t, p, af, some (j, b)⟩ :: os) st K = match (ops[j]?).bind (·.dst) with
   | some e => match st.fr e with
    | .bool c => (match c == b with | true => wpos P W ops (⟨d, o, t, p, af, none⟩ :: os) st K | false => wpos P W ops os (st.put d (.tup [])) K)
    | .tup _ => wpos P W ops os (st.put d (.tup [])) K
    | _ => False
   | none => False := by
 simp only [wpos, wpo, guardA]
 cases (ops[j]?).bind (·.dst) with
 | none => rfl
 | some e =>
  simp only
  cases st.fr e <;> first | rfl | (rename_i c; cases c <;> cases b <;> simp; done) | simp
theorem Ux {x : Operand} : wpos P W ops (⟨some d, .move x, t, p, af, none⟩ :: os) ⟨fr, h, nx⟩ K = wpos P W ops os ⟨upd fr d (evA fr x), h, nx⟩ K := by rw [Au (by intros; simp)]; rfl
theorem Pj {x : Operand} : wpos P W ops (⟨some d, .assign x, t, p, af, none⟩ :: os) ⟨fr, h, nx⟩ K = wpos P W ops os ⟨upd fr d (evA fr x), h, nx⟩ K := by rw [Au (by intros; simp)]; rfl
theorem Uy {c x y : Operand} : wpos P W ops (⟨some d, .pick c x y, t, p, af, none⟩ :: os) ⟨fr, h, nx⟩ K = match evA fr c with
  | .bool b => wpos P W ops os ⟨upd fr d (if b = true then evA fr x else evA fr y), h, nx⟩ K
  | _ => False := by
 rw [Au (by intros; simp)]; simp only [evalOp, Bq]; cases evA fr c <;> rfl
def goV (o : Option AV) (f : AV → Prop) : Prop := match o with | some v => f v | none => False
theorem W5 {op : BinOp} {t1 t2 : TypeId} {x y : Operand} : wpos P W ops (⟨some d, .binOp op t1 x y t2, t, p, af, none⟩ :: os) ⟨fr, h, nx⟩ K =
  match (if isBool (evA fr x) = true → boolT P t1 = true then binN P op t1 y (evA fr x) (evA fr y) else none) with
  | some v => wpos P W ops os ⟨upd fr d v, h, nx⟩ K
  | none => False := by
 rw [Au (by intros; simp)]; simp only [evalOp]
 by_cases hc : (isBool (evA fr x) = true → boolT P t1 = true)
 ·have hc' : (isBool (St.ev ⟨fr, h, nx⟩ x) = true → boolT P t1 = true) := hc
  rw [if_pos hc, if_pos hc']; simp only [Bq]; cases binN P op t1 y (evA fr x) (evA fr y) <;> rfl
 ·have hc' : ¬ (isBool (St.ev ⟨fr, h, nx⟩ x) = true → boolT P t1 = true) := hc
  rw [if_neg hc, if_neg hc']
theorem YE {op : UnOp} {t1 : TypeId} {x : Operand} : wpos P W ops (⟨some d, .unOp op t1 x, t, p, af, none⟩ :: os) ⟨fr, h, nx⟩ K =
  match unA op (evA fr x) with | some v => wpos P W ops os ⟨upd fr d v, h, nx⟩ K | none => False := by
 rw [Au (by intros; simp)]; simp only [evalOp, Bq]; cases unA op (evA fr x) <;> rfl
theorem Uz {t1 t2 : TypeId} {x : Operand} : wpos P W ops (⟨some d, .convert t1 t2 x, t, p, af, none⟩ :: os) ⟨fr, h, nx⟩ K =
  match (if okT P t1 = true then conA P ⟨fr, h, nx⟩ t1 t2 (evA fr x) else none) with | some v => wpos P W ops os ⟨upd fr d v, h, nx⟩ K | none => False := by
 rw [Au (by intros; simp)]; simp only [evalOp, Bq]
 by_cases hc : okT P t1 = true
 ·simp only [if_pos hc]; cases conA P ⟨fr, h, nx⟩ t1 t2 (evA fr x) <;> rfl
 ·simp only [if_neg hc]
theorem Pk {st : St} {t1 t2 : TypeId} {k : IntKind} {n : Int} : conA P st t1 t2 (.int k n) = if t1 = 98 then none else convA P t2 (.int k n) := by
 unfold conA
 by_cases hc : t1 = 98
 ·rw [if_pos hc, if_pos hc]
  split
  ·cases elT P t1 with
   | none => rfl
   | some e => simp [winA]
  ·rfl
 ·rw [if_neg hc, if_neg hc]
theorem SH {t1 : TypeId} {x : Operand} {lo hi mx : Option Operand} : wpos P W ops (⟨some d, .slice t1 x lo hi mx, t, p, af, none⟩ :: os) ⟨fr, h, nx⟩ K =
  match sliceA P ⟨fr, h, nx⟩ t1 (evA fr x) (lo.map (evA fr)) (hi.map (evA fr)) (mx.map (evA fr)) with | some v => wpos P W ops os ⟨upd fr d v, h, nx⟩ K | none => False := by
 rw [Au (by intros; simp)]; simp only [evalOp, Bq]
 have : St.ev ⟨fr, h, nx⟩ = evA fr := by funext x; rfl
 rw [this]
 cases sliceA P ⟨fr, h, nx⟩ t1 (evA fr x) (lo.map (evA fr)) (hi.map (evA fr)) (mx.map (evA fr)) <;> rfl
theorem Ug {t1 : TypeId} {x i : Operand} : wpos P W ops (⟨some d, .index t1 x i, t, p, af, none⟩ :: os) ⟨fr, h, nx⟩ K =
  match evA fr x, evA fr i with
  | .str s, .int _ i => match (if strT P t1 = true ∧ 0 ≤ i ∧ i < (s.length : Int) then s[i.toNat]? else none) with | some b => wpos P W ops os ⟨upd fr d (.int .u8 b.toNat), h, nx⟩ K | none => False
  | _, _ => False := by
 rw [Au (by intros; simp)]; simp only [evalOp, Bq]
 cases evA fr x <;> try rfl
 cases evA fr i <;> try rfl
 rename_i s k n
 by_cases hc : strT P t1 = true ∧ 0 ≤ n ∧ n < (s.length : Int)
 ·simp only [if_pos hc]; cases s[n.toNat]? <;> rfl
 ·simp only [if_neg hc]
theorem OO {t1 : TypeId} {x i : Operand} : wpos P W ops (⟨some d, .indexAddr t1 x i, t, p, af, none⟩ :: os) ⟨fr, h, nx⟩ K =
  match indexAddrA P ⟨fr, h, nx⟩ t1 (evA fr x) (evA fr i) with | some v => wpos P W ops os ⟨upd fr d v, h, nx⟩ K | none => False := by
 rw [Au (by intros; simp)]; simp only [evalOp, Bq]; cases indexAddrA P ⟨fr, h, nx⟩ t1 (evA fr x) (evA fr i) <;> rfl
theorem Kf {t1 : TypeId} {x : Operand} {f : Nat} : wpos P W ops (⟨some d, .fieldAddr t1 x f, t, p, af, none⟩ :: os) ⟨fr, h, nx⟩ K =
    match fieldOff P t1 f with
    | some q => (match evA fr x with
      | .ptr id n i j => (if szT P q.2 ≠ 0 then wpos P W ops os ⟨upd fr d (.ptr id n i (j + q.1)), h, nx⟩ K else False)
      | .cptr t v j => (if szT P q.2 ≠ 0 then wpos P W ops os ⟨upd fr d (.cptr t v (j + q.1)), h, nx⟩ K else False)
      | _ => False)
    | none => False := by
  rw [Au (by intros; simp)]; simp only [evalOp, Bq]
  cases fieldOff P t1 f with
  | none => rfl
  | some q =>
    obtain ⟨a, b⟩ := q
    cases evA fr x <;> try rfl
    all_goals
      by_cases hc : szT P b ≠ 0
      · simp only [if_pos hc]; rfl
      · simp only [if_neg hc]
theorem SI {t1 : TypeId} {x : Operand} {f : Nat} : wpos P W ops (⟨some d, .field t1 x f, t, p, af, none⟩ :: os) ⟨fr, h, nx⟩ K =
    match fieldOff P t1 f with
    | some q => (match evA fr x with
      | .agg cs => (match (if okT P q.2 = true then partA P q.2 cs q.1 else none) with | some v => wpos P W ops os ⟨upd fr d v, h, nx⟩ K | none => False)
      | _ => False)
    | none => False := by
  rw [Au (by intros; simp)]; simp only [evalOp, Bq]
  cases fieldOff P t1 f with
  | none => rfl
  | some q =>
    obtain ⟨a, b⟩ := q
    cases evA fr x <;> try rfl
    rename_i cs
    by_cases hc : okT P b = true
    · simp only [if_pos hc]; cases partA P b cs a <;> rfl
    · simp only [if_neg hc]
theorem OP {x : Operand} {i : Nat} : wpos P W ops (⟨some d, .extract x i, t, p, af, none⟩ :: os) ⟨fr, h, nx⟩ K =
  match evA fr x with
  | .tup vs => (match vs[i]? with | some v => wpos P W ops os ⟨upd fr d v, h, nx⟩ K | none => False)
  | _ => False := by
 rw [Au (by intros; simp)]; simp only [evalOp, Bq]
 cases evA fr x <;> try rfl
 rename_i vs
 simp only; cases vs[i]? <;> rfl
theorem U0 {t1 : TypeId} {x : Operand} : wpos P W ops (⟨some d, .load t1 x, t, p, af, none⟩ :: os) ⟨fr, h, nx⟩ K =
  match (if okT P t1 = true then loadA P ⟨fr, h, nx⟩ t1 (evA fr x) else none) with | some v => wpos P W ops os ⟨upd fr d v, h, nx⟩ K | none => False := by
 rw [Au (by intros; simp)]; simp only [evalOp, Bq]
 by_cases hc : okT P t1 = true
 ·simp only [if_pos hc]; cases loadA P ⟨fr, h, nx⟩ t1 (evA fr x) <;> rfl
 ·simp only [if_neg hc]
theorem SJ {t1 : TypeId} {x y : Operand} : wpos P W ops (⟨none, .store t1 x y, t, p, af, none⟩ :: os) ⟨fr, h, nx⟩ K =
  match (if okT P t1 = true then storeA P ⟨fr, h, nx⟩ t1 (evA fr x) (evA fr y) else none) with | some st => wpos P W ops os st K | none => False := by
 rw [Au (by intros; simp)]; simp only [evalOp, Bq]
 by_cases hc : okT P t1 = true
 ·simp only [if_pos hc]; cases storeA P ⟨fr, h, nx⟩ t1 (evA fr x) (evA fr y) <;> rfl
 ·simp only [if_neg hc]
theorem W6 {x : Operand} {t1 : TypeId} : wpos P W ops (⟨some d, .call { callee := .builtin .len, args := #[x], argTypes := #[t1] }, t, p, af, none⟩ :: os) ⟨fr, h, nx⟩ K =
  match (if lenT P t1 (evA fr x) = true then lenA ⟨fr, h, nx⟩ (evA fr x) else none) with | some n => wpos P W ops os ⟨upd fr d (.int .i64 n), h, nx⟩ K | none => False := by
 rw [Au (by intros; simp)]; simp only [evalOp]
 by_cases hc : lenT P t1 (evA fr x) = true
 ·have hc' : lenT P t1 (St.ev ⟨fr, h, nx⟩ x) = true := hc
  rw [if_pos hc, if_pos hc']; simp only [Bq]; cases lenA ⟨fr, h, nx⟩ (evA fr x) <;> rfl
 ·have hc' : ¬ lenT P t1 (St.ev ⟨fr, h, nx⟩ x) = true := hc
  rw [if_neg hc, if_neg hc']
theorem Pl {x y : Operand} {t1 t2 : TypeId} : wpos P W ops (⟨some d, .call { callee := .builtin .append, args := #[x, y], argTypes := #[t1, t2] }, t, p, af, none⟩ :: os) ⟨fr, h, nx⟩ K =
  match elT P t1 with
  | some e => (match (if elT P t2 = some e ∧ zokT P e = true then winA ⟨fr, h, nx⟩ e (evA fr y) else none) with
   | some ys => (match appendA P ⟨fr, h, nx⟩ e (evA fr x) ys with
    | some q => wpos P W ops os (q.2.put (some d) q.1) K
    | none => False)
   | none => (match appendN P ⟨fr, h, nx⟩ t2 e (evA fr x) (evA fr y) with
    | some q => wpos P W ops os (q.2.put (some d) q.1) K
    | none => False))
  | none => False := by
 rw [Au (by intros; simp)]; simp only [evalOp, Bq]
 cases elT P t1 with
 | none => rfl
 | some e =>
  simp only [Option.bind_some]
  cases (if elT P t2 = some e ∧ zokT P e = true then winA ⟨fr, h, nx⟩ e (evA fr y) else none) with
  | none => rfl
  | some ys => rfl
theorem W7 {x : Operand} {t1 : TypeId} : wpos P W ops (⟨some d, .call { callee := .builtin .cap, args := #[x], argTypes := #[t1] }, t, p, af, none⟩ :: os) ⟨fr, h, nx⟩ K =
  match evA fr x, elT P t1 with
  | .nil, some _ => wpos P W ops os ⟨upd fr d (.int .i64 0), h, nx⟩ K
  | _, _ => False := by
 rw [Au (by intros; simp)]; simp only [evalOp, Bq]
 cases evA fr x <;> cases elT P t1 <;> rfl
theorem U1 {x y : Operand} {t1 t2 : TypeId} : wpos P W ops (⟨some d, .call { callee := .builtin .copy, args := #[x, y], argTypes := #[t1, t2] }, t, p, af, none⟩ :: os) ⟨fr, h, nx⟩ K =
    match elT P t1 with
    | some e => (match (if elT P t2 = some e ∧ zokT P e = true then winA ⟨fr, h, nx⟩ e (cutA (evA fr x) (evA fr y)) else none) with
      | some ys => (match copyA P ⟨fr, h, nx⟩ e (evA fr x) ys with
        | some q => wpos P W ops os (q.2.put (some d) q.1) K
        | none => False)
      | none => False)
    | none => False := by
  rw [Au (by intros; simp)]; simp only [evalOp, Bq]
  cases elT P t1 with
  | none => rfl
  | some e =>
    simp only [Option.bind_some]
    by_cases hc : elT P t2 = some e ∧ zokT P e = true
    · simp only [if_pos hc]; cases winA ⟨fr, h, nx⟩ e (cutA (evA fr x) (evA fr y)) <;> rfl
    · simp only [if_neg hc]
theorem W8 {x y : Operand} {ts : Array TypeId} : wpos P W ops (⟨some d, .call { callee := .builtin .max, args := #[x, y], argTypes := ts }, t, p, af, none⟩ :: os) ⟨fr, h, nx⟩ K =
  match evA fr x, evA fr y with
  | .int k a, .int k' b => if k = k' then wpos P W ops os ⟨upd fr d (.int k (if b > a then b else a)), h, nx⟩ K else False
  | _, _ => False := by
 rw [Au (by intros; simp)]
 have e : evalOp P ⟨fr, h, nx⟩ (.call { callee := .builtin .max, args := #[x, y], argTypes := ts }) = match evA fr x, evA fr y with
   | .int k a, .int k' b => if k = k' then some (.int k (if b > a then b else a), ⟨fr, h, nx⟩) else none
   | _, _ => none := by
  simp only [evalOp, Bq]
  split <;> first | rfl | skip
  all_goals simp_all
 rw [e]
 cases evA fr x <;> try rfl
 cases evA fr y <;> try rfl
 rename_i k a k' b
 simp only
 by_cases hc : k = k'
 ·simp only [if_pos hc]; rfl
 ·simp only [if_neg hc]
theorem Kg {t1 : TypeId} {l c : Operand} : wpos P W ops (⟨some d, .makeSlice t1 l c, t, p, af, none⟩ :: os) ⟨fr, h, nx⟩ K =
    match elT P t1 with
    | some e => (match evA fr l, evA fr c with
      | .int _ l, .int _ c =>
        if 0 ≤ l ∧ l ≤ c ∧ c * (byT P e : Int) ≤ reach ∧ c ≤ reach then
          (match zeroA P e with
          | some z => if z.el P e = true then wpos P W ops os ⟨upd fr d (.ref nx c.toNat 0 l.toNat), upd h nx ⟨e, List.replicate c.toNat z, true, true, true⟩, nx + 1⟩ K else False
          | none => False)
        else False
      | _, _ => False)
    | none => False := by
  rw [Au (by intros; simp)]; simp only [evalOp, Bq]
  cases elT P t1 with
  | none => rfl
  | some e =>
    simp only [Option.bind_some]
    cases evA fr l <;> try rfl
    cases evA fr c <;> try rfl
    rename_i k l k' c
    simp only
    by_cases hc : 0 ≤ l ∧ l ≤ c ∧ c * (byT P e : Int) ≤ reach ∧ c ≤ reach
    · simp only [if_pos hc]
      cases zeroA P e with
      | none => rfl
      | some z =>
        simp only [Option.bind_some]
        by_cases hz : z.el P e = true
        · simp only [if_pos hz]; rfl
        · simp only [if_neg hz]
    · simp only [if_neg hc]
theorem SK {t1 : TypeId} : wpos P W ops (⟨some d, .buildSlice t1 0 #[], t, p, af, none⟩ :: os) ⟨fr, h, nx⟩ K =
  match elT P t1 with
  | some e => if zokT P e = true then (if u32T P e = true then wpos P W ops os ⟨upd fr d (.sl e [] [] true), h, nx⟩ K else wpos P W ops os ⟨upd fr d (.ref nx 0 0 0), upd h nx ⟨e, [], true, true, true⟩, nx + 1⟩ K) else False
  | none => False := by
 rw [Au (by intros; simp)]; simp only [evalOp, Bq]
 cases elT P t1 with
 | none => rfl
 | some e =>
  by_cases hz : zokT P e = true
  ·cases hu : u32T P e
   ·simp [hz, hu, St.new, St.put]
   ·simp [hz, hu, St.put, partsA]
  ·simp [hz]
theorem U2 {t1 : TypeId} {n : Nat} {parts : Array (Nat × Operand)} (hn : n ≠ 0) : wpos P W ops (⟨some d, .buildSlice t1 n parts, t, p, af, none⟩ :: os) ⟨fr, h, nx⟩ K =
    match elT P t1 with
    | some e => (match (if n * szT P e ≤ 16777216 ∧ zokT P e = true then partsA 0 (parts.toList.map fun p => (p.1, evA fr p.2)) else none) with
      | some xs => (if xs.length = n ∧ xs.all (AV.el P e) = true then wpos P W ops os ⟨upd fr d (.sl e xs [] true), h, nx⟩ K else False)
      | none => False)
    | none => False := by
  rw [Au (by intros; simp)]; simp only [evalOp, Bq]
  cases elT P t1 with
  | none => rfl
  | some e =>
    have hn' : ¬ (n = 0 ∧ u32T P e = false) := fun h => hn h.1
    simp only [Option.bind_some, if_neg hn']
    by_cases hc : n * szT P e ≤ 16777216 ∧ zokT P e = true
    · simp only [if_pos hc]
      cases partsA 0 (parts.toList.map fun p => (p.1, evA fr p.2)) with
      | none => rfl
      | some xs =>
        simp only [Option.bind_some]
        by_cases hx : xs.length = n ∧ xs.all (AV.el P e) = true
        · simp only [if_pos hx]; rfl
        · simp only [if_neg hx]
    · simp only [if_neg hc]
theorem SL {t1 : TypeId} {parts : Array (Nat × Operand)} : wpos P W ops (⟨some d, .build t1 parts, t, p, af, none⟩ :: os) ⟨fr, h, nx⟩ K =
  match (if infosT P t1 = true then zeroA P t1 else none) with
  | some (.agg cs) => (match fillA P t1 cs (parts.toList.map fun p => (p.1, evA fr p.2)) with | some cs => wpos P W ops os ⟨upd fr d (.agg cs), h, nx⟩ K | none => False)
  | _ => False := by
 rw [Au (by intros; simp)]; simp only [evalOp, Bq]
 by_cases hc : infosT P t1 = true
 ·simp only [if_pos hc]
  cases zeroA P t1 with
  | none => rfl
  | some z =>
   cases z <;> try rfl
   rename_i cs
   simp only
   cases fillA P t1 cs (parts.toList.map fun p => (p.1, evA fr p.2)) <;> rfl
 ·simp only [if_neg hc]
theorem SM {e : TypeId} : wpos P W ops (⟨some d, .alloc e, t, p, af, none⟩ :: os) ⟨fr, h, nx⟩ K =
  match zeroA P e with
  | some z => if z.el P e = true then wpos P W ops os ⟨upd fr d (.ptr nx 1 0 0), upd h nx ⟨e, [z], true, false, true⟩, nx + 1⟩ K else False
  | none => False := by
 rw [Au (by intros; simp)]; simp only [evalOp, Bq]
 cases zeroA P e with
 | none => rfl
 | some z =>
  simp only [Option.bind_some]
  by_cases hz : z.el P e = true
  ·simp only [if_pos hz]; rfl
  ·simp only [if_neg hz]
theorem W9 {e : TypeId} {x : Operand} : wpos P W ops (⟨some d, .box e x, t, p, af, none⟩ :: os) ⟨fr, h, nx⟩ K =
  if (evA fr x).el P e = true then wpos P W ops os ⟨upd fr d (.ptr nx 1 0 0), upd h nx ⟨e, [evA fr x], true, false, true⟩, nx + 1⟩ K else False := by
 rw [Au (by intros; simp)]; simp only [evalOp]
 by_cases hz : (evA fr x).el P e = true
 ·have hz' : (St.ev ⟨fr, h, nx⟩ x).el P e = true := hz
  rw [if_pos hz, if_pos hz']; rfl
 ·have hz' : ¬ (St.ev ⟨fr, h, nx⟩ x).el P e = true := hz
  rw [if_neg hz, if_neg hz']
theorem Gg {st : St} {n : Nat} {v : AV} (h : v.pure = true) : snapA st n v = some (v, []) := by cases n <;> simp [snapA, h]
theorem Kh {st : St} {n : Nat} : ∀ {xs : List AV}, AV.pureL xs = true → snapL (snapA st n) xs = some (xs, [])
 | [], _ => rfl
 | x :: xs, h => by
  simp only [AV.pureL, Bool.and_eq_true] at h
  simp [snapL, Gg h.1, Kh h.2]
theorem Gh {st : St} : ∀ {xs : List AV}, AV.pureL xs = true → passL st (xs.map fun _ => .snap) xs = some (xs, [], [], [])
 | [], _ => rfl
 | x :: xs, h => by
  simp only [AV.pureL, Bool.and_eq_true] at h
  simp [passL, passA, Gg h.1, Gh h.2]
theorem CallOk.inOk' {g : FuncId} {sargs : List AV} {r : AV} {fr : Nat → AV} {h : Nat → Blk} {nx : Nat} (hc : CallOk P g sargs r []) (hp : AV.pureL sargs = true) (hr : r.pure = true) : InOk P ⟨fr, h, nx⟩ g sargs r ⟨fr, h, nx⟩ := by
 have he : eatH (outH h [] []) [] = h := by funext i; simp [eatH, outH]
 have : CallStep P ⟨fr, h, nx⟩ g sargs r ⟨fr, h, nx⟩ := ⟨sargs.map fun _ => .snap, sargs, [], [], [], r, [], Gh hp, hc, zS, zS, .inl rfl, .inl rfl, by
  rw [BN _ _ _ hr, he]⟩
 exact this.inOk
theorem Ki {d : Option Tmp} {f : Operand} {args : Array Operand} {ts : Array TypeId} {g : FuncId} {first cap as0 : List AV} {x : AV} {h' : Nat → Blk} {nx' : Nat}
  (hc : InOk P ⟨fr, h, nx⟩ g as0 x ⟨fr, h', nx'⟩) (hf : evA fr f = .fn (.func g) first cap) (hg : callable P g = true) (ha : first ++ args.toList.map (evA fr) ++ cap = as0)
  (hw : isW W (.call { callee := .value f, args := args, argTypes := ts }) = false → h' = h ∧ nx' = nx)
  (hpu : isW W (.call { callee := .value f, args := args, argTypes := ts }) = false → AV.pureL as0 = true → ∀ h nx, InOk P ⟨fr, h, nx⟩ g as0 x ⟨fr, h, nx⟩) (hk : wpos P W ops os (St.put ⟨fr, h', nx'⟩ d x) K) :
  wpos P W ops (⟨d, .call { callee := .value f, args := args, argTypes := ts }, t, p, af, none⟩ :: os) ⟨fr, h, nx⟩ K := by
 subst ha
 simp only [wpos, wpo, guardA]
 exact ⟨fun _ => ⟨_, _, ⟨g, first, cap, hf, hg, hc, hw, hpu⟩, hk⟩, zS⟩
theorem Pm {d : Option Tmp} {f : Operand} {args : Array Operand} {ts : Array TypeId} {g : FuncId} {first cap : List AV} (pm : List PM) {sargs : List AV} {sids : List Nat} {io : List (Nat × Nat × Nat)} {eat : List Nat} {r : AV} {outs : List (List AV)}
  (hc : CallOk P g sargs r outs) (hf : evA fr f = .fn (.func g) first cap) (hg : callable P g = true) (hp : passL ⟨fr, h, nx⟩ pm (first ++ args.toList.map (evA fr) ++ cap) = some (sargs, sids, io, eat))
  (hw : isW W (.call { callee := .value f, args := args, argTypes := ts }) = false → (matA true r ⟨fr, eatH (outH h io outs) eat, nx⟩).2.h = h ∧ (matA true r ⟨fr, eatH (outH h io outs) eat, nx⟩).2.nx = nx)
  (h1 : (io.map (·.1) ++ eat).Nodup) (h2 : ∀ i ∈ sids, i ∉ io.map (·.1) ++ eat) (h3 : sids = [] ∨ r.solid = true ∧ AV.solidL outs.flatten = true) (h4 : io = [] ∨ eat = [] ∧ outs.length = io.length)
  (hpu : isW W (.call { callee := .value f, args := args, argTypes := ts }) = false → AV.pureL (first ++ args.toList.map (evA fr) ++ cap) = true → ∀ h0 nx0, InOk P ⟨fr, h0, nx0⟩ g (first ++ args.toList.map (evA fr) ++ cap) (matA true r ⟨fr, eatH (outH h io outs) eat, nx⟩).1 ⟨fr, h0, nx0⟩)
  (hk : wpos P W ops os ((matA true r ⟨fr, eatH (outH h io outs) eat, nx⟩).2.put d (matA true r ⟨fr, eatH (outH h io outs) eat, nx⟩).1) K) :
  wpos P W ops (⟨d, .call { callee := .value f, args := args, argTypes := ts }, t, p, af, none⟩ :: os) ⟨fr, h, nx⟩ K := by
 simp only [wpos, wpo, guardA]
 refine ⟨fun _ => ?_, zS⟩
 refine ⟨_, _, ⟨g, first, cap, hf, hg, CallStep.inOk ⟨pm, sargs, sids, io, eat, r, outs, ?_, hc, h1, h2, h3, h4, Prod.ext rfl rfl⟩, hw, hpu⟩, hk⟩
 exact hp
end
inductive Fr where
 | seq (b : Code)
 | block (id : Nat)
 | loop (J : St → Prop)
def runK (P : Program) (W : WP) : List Fr → Ex → St → (Ex → St → Prop) → Prop
 | [], e, st, Q => Q e st
 | .seq b :: ks, .normal, st, Q => wpc P W b st fun e st' => runK P W ks e st' Q
 | .seq _ :: ks, .exit i, st, Q => runK P W ks (.exit i) st Q
 | .seq _ :: ks, .ret, st, Q => runK P W ks .ret st Q
 | .block id :: ks, .exit i, st, Q => if i = id then runK P W ks .normal st Q else runK P W ks (.exit i) st Q
 | .block _ :: ks, .normal, st, Q => runK P W ks .normal st Q
 | .block _ :: ks, .ret, st, Q => runK P W ks .ret st Q
 | .loop J :: _, .normal, st, _ => J st
 | .loop _ :: ks, .exit i, st, Q => runK P W ks (.exit i) st Q
 | .loop _ :: ks, .ret, st, Q => runK P W ks .ret st Q
def go (P : Program) (W : WP) (c : Code) (st : St) (ks : List Fr) (Q : Ex → St → Prop) : Prop := wpc P W c st fun e st' => runK P W ks e st' Q
def KN (P : Program) (W : WP) (i : Nat) (ops : Array Oper) (h0 : Nat → Blk) (ks : List Fr) (Q : Ex → St → Prop) (st : St) : Prop := dOk P (W.d i) ops h0 st ∧ runK P W ks .normal st Q
section
variable {P : Program} {W : WP} {st : St} {ks : List Fr} {Q : Ex → St → Prop} {a b c : Code} {i id : Nat}
theorem AC (h : go P W c st [] Q) : wpc P W c st Q := by unfold go at h; exact CA c (fun e st' h => h) h
theorem XA {ops : Array Oper} {w : FuncId → Bool} {h0 : Nat → Blk} : KN P ⟨w, fun _ => none⟩ i ops h0 ks Q st = runK P ⟨w, fun _ => none⟩ ks .normal st Q := by simp only [KN, dOk, true_and]
theorem XB {e : Ex} : runK P W [] e st Q = Q e st := (rfl : _ = _).trans rfl
theorem XC : runK P W (.seq b :: ks) .normal st Q = go P W b st ks Q := (rfl : _ = _).trans rfl
theorem OQ : runK P W (.seq b :: ks) (.exit i) st Q = runK P W ks (.exit i) st Q := (rfl : _ = _).trans rfl
theorem Pn : runK P W (.seq b :: ks) .ret st Q = runK P W ks .ret st Q := (rfl : _ = _).trans rfl
theorem SN : runK P W (.block id :: ks) .normal st Q = runK P W ks .normal st Q := (rfl : _ = _).trans rfl
theorem Kj : runK P W (.block id :: ks) (.exit i) st Q = if i = id then runK P W ks .normal st Q else runK P W ks (.exit i) st Q := (rfl : _ = _).trans rfl
theorem L5 : runK P W (.block id :: ks) .ret st Q = runK P W ks .ret st Q := (rfl : _ = _).trans rfl
theorem U3 {J : St → Prop} : runK P W (.loop J :: ks) .normal st Q = J st := (rfl : _ = _).trans rfl
theorem L6 {J : St → Prop} : runK P W (.loop J :: ks) (.exit i) st Q = runK P W ks (.exit i) st Q := (rfl : _ = _).trans rfl
theorem OR {J : St → Prop} : runK P W (.loop J :: ks) .ret st Q = runK P W ks .ret st Q := (rfl : _ = _).trans rfl
theorem XD : go P W (a.seq b) st ks Q = go P W a st (.seq b :: ks) Q := by
 unfold go
 simp only [wpc]
 congr 1
 funext e st'
 cases e <;> rfl
theorem Dg : go P W (.block id c) st ks Q = go P W c st (.block id :: ks) Q := by
 unfold go
 simp only [wpc]
 congr 1
 funext e st'
 cases e <;> simp only [Ex.inB, runK]
theorem U4 : go P W .skip st ks Q = runK P W ks .normal st Q := (rfl : _ = _).trans rfl
theorem U5 : go P W (.exit i) st ks Q = runK P W ks (.exit i) st Q := (rfl : _ = _).trans rfl
theorem XE : go P W .ret st ks Q = runK P W ks .ret st Q := (rfl : _ = _).trans rfl
theorem Po {l : List Oper} {dr : Bool} {w : FuncId → Bool} {d : Nat → Option (List (Nat × Nat))} : go P ⟨w, d⟩ (.region i l.toArray dr) st ks Q = wpos P w l.toArray l st (KN P ⟨w, d⟩ i l.toArray (lh (d i) st) ks Q) := (rfl : _ = _).trans rfl
theorem Pp {ops : Array Oper} {h0 : Nat → Blk} : dOk P none ops h0 st = True := (rfl : _ = _).trans rfl
theorem SO : lh none st = noH := (rfl : _ = _).trans rfl
theorem SP {ps : List (Nat × Nat)} : lh (some ps) st = if isLk ps then st.h else noH := (rfl : _ = _).trans rfl
theorem Pq {ops : Array Oper} {h0 : Nat → Blk} {ps : List (Nat × Nat)} : dOk P (some ps) ops h0 st = if isLk ps then (if isLv ps then lookLV P h0 st ops ps.tail else lookL P h0 st ops ps.tail) else (apartL st ops ps ∧ pureOL st ops.toList) := (rfl : _ = _).trans rfl
theorem L7 {x : Operand} {fr : Nat → AV} {h : Nat → Blk} {nx : Nat} : go P W (.cond x a b) ⟨fr, h, nx⟩ ks Q = match evA fr x with
  | .bool true => go P W a ⟨fr, h, nx⟩ ks Q
  | .bool false => go P W b ⟨fr, h, nx⟩ ks Q
  | _ => False := by
 have e : go P W (.cond x a b) ⟨fr, h, nx⟩ ks Q = match evA fr x with
  | .bool t => (t = true → go P W a ⟨fr, h, nx⟩ ks Q) ∧ (t = false → go P W b ⟨fr, h, nx⟩ ks Q)
  | _ => False := rfl
 rw [e]
 cases evA fr x <;> try rfl
 rename_i t
 cases t <;> simp
theorem AM {α : Type} (Inv : α → St → Prop) (m : α → Nat) (x : α) (hx : Inv x st)
  (hstep : ∀ (x : α) (st : St), Inv x st → ∀ J : St → Prop, (∀ y st', Inv y st' → m y < m x → J st') → go P W c st (.loop J :: ks) Q) : go P W (.loop c) st ks Q := by
 unfold go
 simp only [wpc]
 intro J hJ
 suffices hs : ∀ n x st, m x = n → Inv x st → J st from hs _ x st rfl hx
 intro n
 induction n using Nat.strongRecOn with
 | _ n ih =>
  intro x st hn hi
  have := hstep x st hi J fun y st' hy hlt => ih (m y) zO y st' rfl hy
  refine hJ st (CA c (fun e st' h => ?_) this)
  cases e <;> exact h
end
theorem XF {α : Type} (l : List α) (i : Nat) : l.toArray[i]? = l[i]? := by simp
theorem XG {n : Int} (h1 : -9223372036854775808 ≤ n) (h2 : n ≤ 9223372036854775807) : IntKind.i64.wrap n = n := by
 by_cases h : n % 18446744073709551616 ≥ 9223372036854775808 <;> simp [IntKind.wrap, IntKind.signed, IntKind.bits, h] <;> omega
theorem SQ {n : Int} (h1 : 0 ≤ n) (h2 : n ≤ 18446744073709551615) : IntKind.u64.wrap n = n := by
 simp only [IntKind.wrap, IntKind.signed, IntKind.bits, Bool.false_and, Bool.false_eq_true, if_false]; omega
theorem BH {n : Int} (h1 : 0 ≤ n) (h2 : n ≤ 4294967295) : IntKind.u32.wrap n = n := by
 simp only [IntKind.wrap, IntKind.signed, IntKind.bits, Bool.false_and, Bool.false_eq_true, if_false]; omega
theorem U6 {n : Int} (h1 : 0 ≤ n) (h2 : n ≤ 255) : IntKind.u8.wrap n = n := by
 simp only [IntKind.wrap, IntKind.signed, IntKind.bits, Bool.false_and, Bool.false_eq_true, if_false]; omega
theorem YF {a b : Int} (h : a = b) : (a == b) = true := by simp [h]
theorem XH {α : Type} {p q : Prop} [Decidable p] [Decidable q] {a b : α} : (if p ∧ q then a else b) = if p then (if q then a else b) else b := by
 by_cases hp : p <;> by_cases hq : q <;> simp [hp, hq]
theorem YG {a b : Int} (h : a ≠ b) : (a != b) = true := by simp [h]
theorem YH {a b : Int} (h : a = b) : (a != b) = false := by simp [h]
theorem YI {a b : Int} (h : a ≠ b) : (a == b) = false := by simp [h]
attribute [go_sem ↓] L7 Ug Dg XH XD U4 U5 XE Po XA XB XC OQ Pn SN Kj L5 U3 L6 OR W4 SG Ux Pj Uy W5 YE Uz SH OO Kf SI OP U0 SJ W6 Pl W7 U1 W8 Kg SK SL SM W9
theorem YJ {α : Type} (f : Nat → α) (i : Nat) (v : α) (j : Nat) : upd f i v j = if j = i then v else f j := (AA f i v j).trans rfl
section
variable {P : Program} {W : WP} {x : Operand} {a b c : Code} {st : St} {ks : List Fr} {Q : Ex → St → Prop} {i : Nat}
def goS (P : Program) (W : WP) (x : Operand) (a b : Code) (st : St) (ks : List Fr) (Q : Ex → St → Prop) : Prop := go P W (.cond x a b) st ks Q
def goB (P : Program) (W : WP) (i : Nat) (c : Code) (st : St) (ks : List Fr) (Q : Ex → St → Prop) : Prop := go P W (.block i c) st ks Q
theorem Ci : go P W (.cond x a b) st ks Q = goS P W x a b st ks Q := (rfl : _ = _).trans rfl
theorem BX : go P W (.block i c) st ks Q = goB P W i c st ks Q := (rfl : _ = _).trans rfl
end
def wposI (P : Program) (W : FuncId → Bool) (ops : Array Oper) (o : Oper) (os : List Oper) (st : St) (K : St → Prop) : Prop := wpos P W ops (o :: os) st K
theorem OS {P : Program} {W : FuncId → Bool} {ops : Array Oper} {os : List Oper} {st : St} {K : St → Prop} {d t : Nat} {p : String} {af : Array Edge} {t1 : TypeId} {x i : Operand} : wpos P W ops (⟨some d, .index t1 x i, t, p, af, none⟩ :: os) st K = wposI P W ops ⟨some d, .index t1 x i, t, p, af, none⟩ os st K := (rfl : _ = _).trans rfl
theorem Pr {P : Program} {op : BinOp} {t i : Nat} {ax ay : AV} : binN P op t (.tmp i) ax ay = binA op ax ay := (rfl : _ = _).trans rfl
theorem Ps {P : Program} {op : BinOp} {t : Nat} {k : IntKind} {n : Int} {ax ay : AV} : binN P op t (.const (.int k n)) ax ay = binA op ax ay := (rfl : _ = _).trans rfl
theorem Pt {P : Program} {op : BinOp} {t : Nat} {b : ByteArray} {ax ay : AV} : binN P op t (.const (.string b)) ax ay = binA op ax ay := (rfl : _ = _).trans rfl
theorem Pv {P : Program} {t T : Nat} {xs sp : List AV} {ex : Bool} {ay : AV} : binN P .eql t (.const (.slice none 0 0)) (.sl T xs sp ex) ay = if xs.length ≠ 0 ∧ (elT P t).isSome = true then some (.bool false) else none := (rfl : _ = _).trans rfl
attribute [go_sem] SO Pr Ps Pt Pv Option.isSome_some
attribute [go_sem] SC Ph SD Pi SE SF YJ lenT lenA isBool binA intA unA convA Pk cutA sliceA zeroI bounds2 bndA indexAddrA loadA storeA ldA partA AV.cells XF List.getElem?_cons_succ List.getElem?_cons_zero Option.bind_some Option.map_some Option.map_none Option.isSome_some Bool.false_eq_true false_implies St.put St.new fillA setCells
 and_true true_and and_self if_true if_false List.append_nil List.length_nil Nat.add_zero List.drop_zero BEq.rfl Bool.true_beq Bool.false_beq Bool.not_true Bool.not_false forall_const true_implies
attribute [go_sem_proc] Nat.reduceEqDiff Nat.reduceBEq reduceCtorEq
attribute [go_sem_proc ↓] reduceIte
attribute [go_sem] if_pos if_neg decide_eq_true decide_eq_false YF YI YG YH XG BH SQ U6
theorem AL {st : St} {n : Nat} {v : AV} (h : v.pure = true) : snapA st n v = some (v, []) := by cases n <;> simp [snapA, h]
theorem Ew {st : St} {n : Nat} {v : AV} (h : v.pure = true) : ownA st n v = some (v, []) := by cases n <;> simp [ownA, h]
theorem Cj {st : St} {n : Nat} : ∀ {xs : List AV}, AV.pureL xs = true → snapL (snapA st n) xs = some (xs, [])
 | [], _ => rfl
 | x :: xs, h => by
  simp only [AV.pureL, Bool.and_eq_true] at h
  simp [snapL, AL h.1, Cj h.2]
theorem BG {st : St} {n : Nat} : ∀ {xs : List AV}, AV.pureL xs = true → snapL (ownA st n) xs = some (xs, [])
 | [], _ => rfl
 | x :: xs, h => by
  simp only [AV.pureL, Bool.and_eq_true] at h
  simp [snapL, Ew h.1, BG h.2]
theorem Ey {st : St} {d id n off len : Nat} : snapA st (d + 1) (.ref id n off len) = if (st.h id).lv ∧ (st.h id).xs.length = n ∧ off + len ≤ n then
  (snapL (snapA st d) (((st.h id).xs.drop off).take len)).bind fun p => some (.sl (st.h id).t p.1 [] false, id :: p.2) else none := by
 rw [snapA]; simp [AV.pure]
theorem C2 {st : St} {d id n off len : Nat} : ownA st (d + 1) (.ref id n off len) = if (st.h id).lv ∧ (st.h id).xs.length = n ∧ off = 0 ∧ len ≤ n ∧ (st.h id).gr then
  (snapL (ownA st d) ((st.h id).xs.take len)).bind fun p => (if (st.h id).ex then snapL (ownA st d) ((st.h id).xs.drop len) else some ([], [])).bind fun q =>
   some (.own (st.h id).t p.1 q.1 (st.h id).ex, id :: (p.2 ++ q.2)) else none := by
 rw [ownA]; simp [AV.pure]
theorem AG {P : Program} {fn : Func} {n0 : Nat} {fl : Bool} {t : Tmp} {r : AV} {st : St} {e : Ex} (he : e = .ret ∨ e = .normal) (hr : fn.results.toList = [.tmp t]) (hv : st.fr t = r) (hp : r.pure = true) :
  Post P fn n0 fl false r [] e st := by
 refine ⟨by rcases he with rfl | rfl <;> trivial, r, by rw [hr]; simp [resV, resL, resA, hv], [], ?_, .inl rfl⟩
 simp only [Bool.false_eq_true, if_false]
 exact ⟨AL hp, zS⟩
theorem Ag {P : Program} {fn : Func} {n0 : Nat} {fl : Bool} {t u : Tmp} {r s : AV} {st : St} {e : Ex} (he : e = .ret ∨ e = .normal) (hr : fn.results.toList = [.tmp t, .tmp u]) (hv : st.fr t = r) (hw : st.fr u = s) (hp : r.pure = true) (hq : s.pure = true) :
  Post P fn n0 fl false (.tup [r, s]) [] e st := by
 refine ⟨by rcases he with rfl | rfl <;> trivial, .tup [r, s], by rw [hr]; simp [resV, resL, resA, hv, hw], [], ?_, .inl rfl⟩
 simp only [Bool.false_eq_true, if_false]
 exact ⟨AL (by simp [AV.pure, AV.pureL, hp, hq]), zS⟩
theorem EE {P : Program} {fn : Func} {n0 : Nat} {fl : Bool} {t u v : Tmp} {r s q : AV} {st : St} {e : Ex} (he : e = .ret ∨ e = .normal) (hr : fn.results.toList = [.tmp t, .tmp u, .tmp v]) (hv : st.fr t = r) (hw : st.fr u = s) (hx : st.fr v = q) (hp : r.pure = true) (hq : s.pure = true) (hq' : q.pure = true) :
  Post P fn n0 fl false (.tup [r, s, q]) [] e st := by
 refine ⟨by rcases he with rfl | rfl <;> trivial, .tup [r, s, q], by rw [hr]; simp [resV, resL, resA, hv, hw, hx], [], ?_, .inl rfl⟩
 simp only [Bool.false_eq_true, if_false]
 exact ⟨AL (by simp [AV.pure, AV.pureL, hp, hq, hq']), zS⟩
theorem Bs {P : Program} {fn : Func} {n0 : Nat} {fl : Bool} {t : Tmp} {id n off len T : Nat} {r : List AV} {st : St} {e : Ex} (he : e = .ret ∨ e = .normal) (hr : fn.results.toList = [.tmp t]) (hv : st.fr t = .ref id n off len)
  (hlv : (st.h id).lv = true) (hn : (st.h id).xs.length = n) (ht : (st.h id).t = T) (hl : off + len ≤ n) (hid : n0 ≤ id) (hxs : ((st.h id).xs.drop off).take len = r) (hp : AV.pureL r = true) :
  Post P fn n0 fl false (.sl T r [] false) [] e st := by
 refine ⟨by rcases he with rfl | rfl <;> trivial, .ref id n off len, by rw [hr]; simp [resV, resL, resA, hv], [id], ?_, .inl rfl⟩
 simp only [Bool.false_eq_true, if_false]
 refine ⟨?_, by simpa using hid⟩
 rw [Ey, if_pos ⟨hlv, hn, hl⟩, hxs, Cj hp, ht]; rfl
theorem Fl {P : Program} {fn : Func} {n0 : Nat} {fl : Bool} {t : Tmp} {id n len T : Nat} {r sp : List AV} {ex : Bool} {st : St} {e : Ex} (he : e = .ret ∨ e = .normal) (hr : fn.results.toList = [.tmp t]) (hv : st.fr t = .ref id n 0 len)
  (hlv : (st.h id).lv = true) (hn : (st.h id).xs.length = n) (hg : (st.h id).gr = true) (ht : (st.h id).t = T) (hl : len ≤ n) (hxs : (st.h id).xs.take len = r) (hsp : (if (st.h id).ex = true then (st.h id).xs.drop len else []) = sp) (hex : (st.h id).ex = ex) (hp : AV.pureL r = true) (hq : AV.pureL sp = true) :
  Post P fn n0 fl true (.own T r sp ex) [] e st := by
 refine ⟨by rcases he with rfl | rfl <;> trivial, .ref id n 0 len, by rw [hr]; simp [resV, resL, resA, hv], [id], ?_, .inl rfl⟩
 simp only [if_true]
 refine ⟨?_, zS⟩
 rw [C2, if_pos ⟨hlv, hn, rfl, hl, hg⟩, hxs, BG hp, ht]
 rw [hex] at hsp
 simp only [hex, Option.bind_some]
 cases ex with
 | true => simp only [if_true] at hsp ⊢; rw [hsp, BG hq]; simp
 | false => simp only [Bool.false_eq_true, if_false] at hsp ⊢; subst hsp; simp
section
variable {P : Program} {W : FuncId → Bool} {ops : Array Oper} {os : List Oper} {fr : Nat → AV} {h : Nat → Blk} {nx : Nat} {K : St → Prop} {d t : Nat} {p : String} {af : Array Edge}
theorem Ck {st : St} : ∀ {xs : List AV}, AV.pureL xs = true → passL st (xs.map fun _ => .snap) xs = some (xs, [], [], [])
 | [], _ => rfl
 | x :: xs, h => by
  simp only [AV.pureL, Bool.and_eq_true] at h
  simp [passL, passA, AL h.1, Ck h.2]
theorem AD {g : FuncId} {args : Array Operand} {ts : Array TypeId} {sargs : List AV} {r : AV}
  (hc : CallOk P g sargs r []) (hg : callable P g = true) (ha : args.toList.map (evA fr) = sargs) (hp : AV.pureL sargs = true) (hr : r.pure = true)
  (hk : wpos P W ops os ⟨upd fr d r, h, nx⟩ K) :
  wpos P W ops (⟨some d, .call { callee := .value (.func g), args := args, argTypes := ts }, t, p, af, none⟩ :: os) ⟨fr, h, nx⟩ K := by
 have he : eatH (outH h [] []) [] = h := by funext i; simp [eatH, outH]
 refine Pm (g := g) (first := []) (cap := []) (pm := sargs.map fun _ => .snap) (outs := []) hc rfl hg (by simp only [List.nil_append, List.append_nil, ha]; exact Ck hp) ?_ zS zS (.inl rfl) (.inl rfl) ?_ ?_
 ·intro _; rw [BN _ _ _ hr, he]; exact ⟨rfl, rfl⟩
 ·intro _ _ h0 nx0; simp only [List.nil_append, List.append_nil, ha]; rw [BN _ _ _ hr]; exact hc.inOk' hp hr
 ·rw [BN _ _ _ hr, he]; exact hk
theorem M4 {g : FuncId} {args : Array Operand} {ts : Array TypeId} {sargs : List AV} {T : Nat} {xs sp : List AV} {ex : Bool}
  (hc : CallOk P g sargs (.own T xs sp ex) []) (hg : callable P g = true) (ha : args.toList.map (evA fr) = sargs) (hp : AV.pureL sargs = true) (hr : AV.pureL xs = true) (hs : AV.pureL sp = true) (hW : W g = true)
  (hk : wpos P W ops os ⟨upd fr d (.ref nx (xs.length + sp.length) 0 xs.length), upd h nx ⟨T, xs ++ sp, ex, true, true⟩, nx + 1⟩ K) :
  wpos P W ops (⟨some d, .call { callee := .value (.func g), args := args, argTypes := ts }, t, p, af, none⟩ :: os) ⟨fr, h, nx⟩ K := by
 have he : eatH (outH h [] []) [] = h := by funext i; simp [eatH, outH]
 refine Pm (g := g) (first := []) (cap := []) (pm := sargs.map fun _ => .snap) (outs := []) hc rfl hg (by simp only [List.nil_append, List.append_nil, ha]; exact Ck hp) ?_ zS zS (.inl rfl) (.inl rfl) ?_ ?_
 ·intro hw; simp [isW, hW] at hw
 ·intro hw; simp [isW, hW] at hw
 ·simp only [matA, Am _ _ _ hr, Am _ _ _ hs, he]; exact hk
end
end Go.Proofs.YthiddlfddncbmaaGreatDoor
