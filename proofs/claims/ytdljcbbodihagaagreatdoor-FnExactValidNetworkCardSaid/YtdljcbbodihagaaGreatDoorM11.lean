/- Ground 11. -/
import Derived.Lib.ItoaNum
import Derived.Test.YtdljcbbodihagaaGreatDoorM10

set_option linter.unusedVariables false
set_option linter.unusedSimpArgs false
set_option maxRecDepth 100000
namespace Go.Proofs.YtdljcbbodihagaaGreatDoor
open Go

section
variable {P : Program} {W : FuncId → Bool} {d : Option Tmp} {ops : Array Oper} {os : List Oper} {fr : Nat → AV} {h : Nat → Blk} {nx : Nat} {K : St → Prop} {t : TokC ⟨d, ops, os, fr, h, nx, K⟩} {g : FuncId} {al : List AV}
theorem CallOk.inOkM {sargs : List AV} {r x : AV} {h' : Nat → Blk} {nx' : Nat} (hc : CallOk P g sargs r []) (hp : AV.pureL sargs = true) (hm : matA true r ⟨fr, h, nx⟩ = (x, ⟨fr, h', nx'⟩)) : InOk P ⟨fr, h, nx⟩ g sargs x ⟨fr, h', nx'⟩ := by
 have he : eatH (outH h [] []) [] = h := by funext i; simp [eatH, outH]
 have : CallStep P ⟨fr, h, nx⟩ g sargs x ⟨fr, h', nx'⟩ :=
  ⟨sargs.map fun _ => .snap, sargs, [], [], [], r, [], passL_pure hp, hc, by simp, by simp, .inl rfl, .inl rfl, by rw [he]; exact hm.symm⟩
 exact this.inOk
theorem callW_M {r x : AV} {h' : Nat → Blk} {nx' : Nat} (hc : CallOk P g al r []) (hg : callable P g = true) (hp : AV.pureL al = true) (hW : W g = true) (hm : matA true r ⟨fr, h, nx⟩ = (x, ⟨fr, h', nx'⟩)) (hk : wpos P W ops os (St.put ⟨fr, h', nx'⟩ d x) K) : callW P W g al ⟨d, ops, os, fr, h, nx, K⟩ t :=
 callW_I (hc.inOkM hp hm) hg (.inl hW) hk (.inl hW)
end
def spareRow : AV := .sl 9 (strA [spareT]) [] true
def rowsP (rs : List Txs) : List Row := rs.map fun x => (x, spareL x.length)
theorem rowsP_len {rs : List Txs} : (rowsP rs).length = rs.length := by simp [rowsP]
theorem rowsP_at {rs : List Txs} {i : Nat} {x : Txs} (h : rs[i]? = some x) : (rowsP rs)[i]? = some (x, spareL x.length) := by simp [rowsP, h]
theorem rowsP_take {rs : List Txs} {i : Nat} {x : Txs} (h : rs[i]? = some x) : (rowsP rs).take (i + 1) = (rowsP rs).take i ++ [(x, spareL x.length)] := by rw [List.take_add_one, rowsP_at h]; rfl
theorem rep_set' {α : Type} {a : List α} {k n : Nat} {z v : α} (hn : a.length = n) (hk : 0 < k) : (a ++ List.replicate k z).set n v = (a ++ [v]) ++ List.replicate (k - 1) z := by
 obtain ⟨q, rfl⟩ : ∃ q, k = q + 1 := ⟨k - 1, by omega⟩
 rw [← hn]; exact rep_set
theorem spareRow_pure {k : Nat} : AV.pureL (List.replicate k spareRow) = true := by
 induction k with
 | zero => rfl
 | succ k ih => rw [List.replicate_succ, AV.pureL, ih]; rfl
set_option maxHeartbeats 4000000 in
theorem l_toSS (rs : List Txs) (b : Bool) (hb : b = false ∨ rs ≠ []) (hn : rs.length ≤ 1000000) (hr : ∀ r ∈ rs, r.length ≤ 1000000) :
    CallOk Tryz.prog 13 [.sl 22 (rowsT rs) [] false, .bool b] (.own 22 ((rowsP rs).map (ownP b)) (List.replicate (roomB rs.length) spareRow) true) [] := by
  obtain ⟨n, hn'⟩ : ∃ n, rs.length = n := ⟨_, rfl⟩
  rw [hn'] at hn ⊢
  obtain ⟨r, hrm⟩ : ∃ r, roomB n = r := ⟨_, rfl⟩
  have hrl := room_le n
  rw [hrm] at hrl ⊢
  have hroom := cw (by kernel_rfl) (by simp [AV.pure, AV.pureL]) (by simp [AV.pure, AV.pureL]) (l_room n (by omega))
  rw [hrm] at hroom
  have hne : b = true → ¬ n = 0 := fun h h0 => by rcases hb with h' | h'; rw [h] at h'; cases h'; exact h' (List.length_eq_zero_iff.1 (by omega))
  have hb0 : (((n + r : Nat) : Int) * 24) ≤ 140737488355328 := by omega
  have hb1 : (n + r) * 24 ≤ 140737488355328 := by omega
  (refine callOk_of_wpc (W := fun g => g == 12) true hm' Tryz.func13 rfl (by kernel_rfl) (Nat.le_of_ble_eq_true rfl) (go_start ?_); generalize hQ : Post Tryz.prog Tryz.f13 _ _ _ _ _ = Q; simp only [stIn, matL, matA, st00])
  cases b with
  | false =>
    simp (disch := omega) only [go_sem, Nat.reduceEqDiff, Nat.reduceBEq, ↓reduceIte, reduceCtorEq, rowsT_len, hn', hroom, List.length_replicate, reach, hb0, hb1]
    (repeat (with_reducible refine Or.inr ?_))
    refine k_loop (fun (⟨i, es⟩ : Nat × List AV) st => st.fr 0 = .sl 22 (rowsT rs) [] false ∧ st.fr 1 = .bool false ∧ st.fr 5 = .ref 0 (n + r) 0 (n + r) ∧ st.fr 6 = .int .i64 i ∧ st.h 0 = ⟨22, es ++ List.replicate (n + r - i) .nil, true, true, true⟩ ∧ RowsN st.h false st.nx 1 ((rowsP rs).take i) es ∧ 1 ≤ st.nx ∧ i ≤ n) (fun (⟨i, _⟩ : Nat × List AV) => n - i) (0, [])
      ⟨(by simp [upd_app] <;> omega), (by simp [upd_app] <;> omega), (by simp [upd_app] <;> omega), (by simp [upd_app] <;> omega), by simp [upd_app], trivial, by simp, by omega⟩ ?_
    rintro ⟨i, es⟩ ⟨fr1, h1, nx1⟩ ⟨g0, g1, g5, g6, hm, HR, hnx, hi⟩ J hJ
    simp only at g0 g1 g5 g6 hm HR hnx hi
    have hel : es.length = i := by rw [HR.len, List.length_take, rowsP_len, hn']; omega
    by_cases hin : i < n
    · have keyJ := fun es' => hJ (i + 1, es')
      clear hJ
      obtain ⟨x, hx⟩ := get_some (xs := rs) (i := i) (by omega)
      have hxl := hr x (List.mem_of_getElem? hx)
      have rtx := rowsT_at hx
      have htk := rowsP_take hx
      have hlen : (es ++ List.replicate (n + r - i) AV.nil).length = n + r := by simp [hel]; omega
      have hset : ∀ v : AV, (es ++ List.replicate (n + r - i) AV.nil).set i v = (es ++ [v]) ++ List.replicate (n + r - (i + 1)) AV.nil := fun v => by rw [rep_set' hel (by omega)]; rfl
      have hget : (es ++ List.replicate (n + r - i) AV.nil)[i]? = some .nil := by rw [List.getElem?_append_right (by omega), hel, Nat.sub_self, List.getElem?_replicate, if_pos (by omega)]
      have n1 : (0 = nx1) = False := by simp; omega
      have n2 : (nx1 = 0) = False := by simp; omega
      simp (disch := omega) only [go_sem, Nat.reduceEqDiff, Nat.reduceBEq, ↓reduceIte, reduceCtorEq, g0, g1, g5, g6, rtx, rowsT_len, hn']
      have hT := l_to x false (.inl rfl) hxl
      have hnn : ¬ rowNil false (x, spareL x.length) := fun h => by cases h.1
      refine callW_O hT cl_to (by simp [AV.pure, AV.pureL]) (strA_pure _) (strA_pure _) rfl ?_
      simp only [strA_length, strA_append]
      simp (disch := omega) only [go_sem, Nat.reduceEqDiff, Nat.reduceBEq, ↓reduceIte, reduceCtorEq, g0, g1, g5, g6, hm, hlen, hset, hget, n1, n2]
      exact keyJ (es ++ [.ref nx1 (x.length + (spareL x.length).length) 0 x.length]) _ ⟨(by simp [upd_app, g0] <;> omega), (by simp [upd_app, g1] <;> omega), (by simp [upd_app, g5] <;> omega), (by simp [upd_app] <;> omega), by simp (disch := omega) only [upd_app, ↓reduceIte, if_neg, if_pos], by
        rw [htk]
        exact HR.snoc (p := (x, spareL x.length)) (id := nx1) hnn (Nat.le_refl _) (by simp only; omega) (by simp (disch := omega) only [upd_app, ↓reduceIte, if_neg, if_pos]; rfl) hnx (fun k hk1 hk2 => by simp (disch := omega) only [upd_app, if_neg]), by simp only; omega, hin⟩ (by simp only; omega)
    · obtain rfl : i = n := by omega
      rw [show i + r - i = r by omega] at hm
      rw [List.take_of_length_le (by rw [rowsP_len]; omega)] at HR
      clear hJ
      simp (disch := omega) only [go_sem, Nat.reduceEqDiff, Nat.reduceBEq, ↓reduceIte, reduceCtorEq, g0, g1, g5, g6, rowsT_len, hn']
      refine k_loop (fun (j : Nat) st => st.fr 0 = .sl 22 (rowsT rs) [] false ∧ st.fr 5 = .ref 0 (i + r) 0 (i + r) ∧ st.fr 7 = .int .i64 ((i + j : Nat) : Int) ∧ st.h 0 = ⟨22, (es ++ List.replicate j spareRow) ++ List.replicate (r - j) .nil, true, true, true⟩ ∧ (∀ k, k ≠ 0 → st.h k = h1 k) ∧ j ≤ r) (fun j => r - j) 0
        ⟨(by simp [upd_app, g0] <;> omega), (by simp [upd_app, g5] <;> omega), (by simp [upd_app] <;> omega), by simpa using hm, fun k hk => rfl, by omega⟩ ?_
      rintro j ⟨fr2, h2, nx2⟩ ⟨s0, s5, s7, hm2, hold2, hj⟩ J2 hJ2
      simp only at s0 s5 s7 hm2 hold2
      have hlen2 : ((es ++ List.replicate j spareRow) ++ List.replicate (r - j) AV.nil).length = i + r := by simp [hel]; omega
      by_cases hjr : j < r
      · have hl3 : (es ++ List.replicate j spareRow).length = i + j := by simp [hel]
        have hset2 : ((es ++ List.replicate j spareRow) ++ List.replicate (r - j) AV.nil).set (i + j) (.sl 9 [.str [126, 115, 112, 97, 114, 101, 126]] [] true) = (es ++ List.replicate (j + 1) spareRow) ++ List.replicate (r - (j + 1)) AV.nil := by
          rw [rep_set' hl3 (by omega), List.replicate_succ', List.append_assoc es]; rfl
        have hget2 : ((es ++ List.replicate j spareRow) ++ List.replicate (r - j) AV.nil)[i + j]? = some .nil := by rw [List.getElem?_append_right (by omega), hl3, Nat.sub_self, List.getElem?_replicate, if_pos (by omega)]
        simp (disch := omega) only [go_sem, Nat.reduceEqDiff, Nat.reduceBEq, ↓reduceIte, reduceCtorEq, s0, s5, s7, hm2, hlen2, hset2, hget2]
        exact hJ2 (j + 1) _ ⟨(by simp [upd_app, s0] <;> omega), (by simp [upd_app, s5] <;> omega), (by simp [upd_app, s7] <;> omega), by simp [upd_app], fun k hk => by simp only [upd_app, if_neg hk, hold2 k hk], hjr⟩ (by omega)
      · obtain rfl : j = r := by omega
        rw [Nat.sub_self, List.replicate_zero, List.append_nil] at hm2 hlen2
        simp (disch := omega) only [go_sem, Nat.reduceEqDiff, Nat.reduceBEq, ↓reduceIte, reduceCtorEq, s0, s5, s7, hm2, hlen2, rowsT_len, hn']
        rw [← hQ]
        have HR2 := HR.keep (h' := h2) (hi' := nx1) (Nat.le_refl _) (fun k hk _ => hold2 k (by omega))
        obtain ⟨ids, q1, q2, q3⟩ := RowsN.own (st := (⟨_, h2, nx2⟩ : St)) (d := 6) HR2
        refine ⟨trivial, .ref 0 (i + j) 0 i, by simp [resV, resL, resA, upd_app], 0 :: (ids ++ []), ?_, .inl rfl⟩
        simp only [if_true]
        refine ⟨?_, ?_⟩
        · rw [ownA_ref, if_pos ⟨by simp only; rw [hm2], by simp only; rw [hm2]; exact hlen2, rfl, by omega, by simp only; rw [hm2]⟩]
          simp only [hm2, if_true]
          rw [List.take_left' hel, List.drop_left' hel, q1, snapLo_pure spareRow_pure]
          simp
        · rw [List.append_nil]
          exact List.nodup_cons.2 ⟨fun hm => by have := (q3 _ hm).1; omega, q2⟩
  | true =>
    have hn0 := hne rfl
    simp (disch := omega) only [go_sem, Nat.reduceEqDiff, Nat.reduceBEq, ↓reduceIte, reduceCtorEq, rowsT_len, hn', hroom, List.length_replicate, reach, hb0, hb1]
    (repeat (with_reducible refine Or.inr ?_))
    refine k_loop (fun (⟨i, es⟩ : Nat × List AV) st => st.fr 0 = .sl 22 (rowsT rs) [] false ∧ st.fr 1 = .bool true ∧ st.fr 5 = .ref 0 (n + r) 0 (n + r) ∧ st.fr 6 = .int .i64 i ∧ st.h 0 = ⟨22, es ++ List.replicate (n + r - i) .nil, true, true, true⟩ ∧ RowsN st.h true st.nx 1 ((rowsP rs).take i) es ∧ 1 ≤ st.nx ∧ i ≤ n) (fun (⟨i, _⟩ : Nat × List AV) => n - i) (0, [])
      ⟨(by simp [upd_app] <;> omega), (by simp [upd_app] <;> omega), (by simp [upd_app] <;> omega), (by simp [upd_app] <;> omega), by simp [upd_app], trivial, by simp, by omega⟩ ?_
    rintro ⟨i, es⟩ ⟨fr1, h1, nx1⟩ ⟨g0, g1, g5, g6, hm, HR, hnx, hi⟩ J hJ
    simp only at g0 g1 g5 g6 hm HR hnx hi
    have hel : es.length = i := by rw [HR.len, List.length_take, rowsP_len, hn']; omega
    by_cases hin : i < n
    · have keyJ := fun es' => hJ (i + 1, es')
      clear hJ
      obtain ⟨x, hx⟩ := get_some (xs := rs) (i := i) (by omega)
      have hxl := hr x (List.mem_of_getElem? hx)
      have rtx := rowsT_at hx
      have htk := rowsP_take hx
      have hlen : (es ++ List.replicate (n + r - i) AV.nil).length = n + r := by simp [hel]; omega
      have hset : ∀ v : AV, (es ++ List.replicate (n + r - i) AV.nil).set i v = (es ++ [v]) ++ List.replicate (n + r - (i + 1)) AV.nil := fun v => by rw [rep_set' hel (by omega)]; rfl
      have hget : (es ++ List.replicate (n + r - i) AV.nil)[i]? = some .nil := by rw [List.getElem?_append_right (by omega), hel, Nat.sub_self, List.getElem?_replicate, if_pos (by omega)]
      have n1 : (0 = nx1) = False := by simp; omega
      have n2 : (nx1 = 0) = False := by simp; omega
      simp (disch := omega) only [go_sem, Nat.reduceEqDiff, Nat.reduceBEq, ↓reduceIte, reduceCtorEq, g0, g1, g5, g6, rtx, rowsT_len, hn']
      by_cases hxe : x = []
      · subst hxe
        refine callW_P l_toNil cl_to (by simp [AV.pure, AV.pureL]) rfl ?_
        simp (disch := omega) only [go_sem, Nat.reduceEqDiff, Nat.reduceBEq, ↓reduceIte, reduceCtorEq, g0, g1, g5, g6, hm, hlen, hset, hget]
        exact keyJ (es ++ [.nil]) _ ⟨(by simp [upd_app, g0] <;> omega), (by simp [upd_app, g1] <;> omega), (by simp [upd_app, g5] <;> omega), (by simp [upd_app] <;> omega), by simp [upd_app], by
          rw [htk]
          exact RowsN.snocN ⟨rfl, rfl⟩ (HR.keep (Nat.le_refl _) (fun k hk1 hk2 => by simp (disch := omega) only [upd_app, if_neg])), hnx, hin⟩ (by simp only; omega)
      · have hT := l_to x true (.inr hxe) hxl
        have hnn : ¬ rowNil true (x, spareL x.length) := fun h => hxe h.2
        refine callW_O hT cl_to (by simp [AV.pure, AV.pureL]) (strA_pure _) (strA_pure _) rfl ?_
        simp only [strA_length, strA_append]
        simp (disch := omega) only [go_sem, Nat.reduceEqDiff, Nat.reduceBEq, ↓reduceIte, reduceCtorEq, g0, g1, g5, g6, hm, hlen, hset, hget, n1, n2]
        exact keyJ (es ++ [.ref nx1 (x.length + (spareL x.length).length) 0 x.length]) _ ⟨(by simp [upd_app, g0] <;> omega), (by simp [upd_app, g1] <;> omega), (by simp [upd_app, g5] <;> omega), (by simp [upd_app] <;> omega), by simp (disch := omega) only [upd_app, ↓reduceIte, if_neg, if_pos], by
          rw [htk]
          exact HR.snoc (p := (x, spareL x.length)) (id := nx1) hnn (Nat.le_refl _) (by simp only; omega) (by simp (disch := omega) only [upd_app, ↓reduceIte, if_neg, if_pos]; rfl) hnx (fun k hk1 hk2 => by simp (disch := omega) only [upd_app, if_neg]), by simp only; omega, hin⟩ (by simp only; omega)
    · obtain rfl : i = n := by omega
      rw [show i + r - i = r by omega] at hm
      rw [List.take_of_length_le (by rw [rowsP_len]; omega)] at HR
      clear hJ
      simp (disch := omega) only [go_sem, Nat.reduceEqDiff, Nat.reduceBEq, ↓reduceIte, reduceCtorEq, g0, g1, g5, g6, rowsT_len, hn']
      refine k_loop (fun (j : Nat) st => st.fr 0 = .sl 22 (rowsT rs) [] false ∧ st.fr 5 = .ref 0 (i + r) 0 (i + r) ∧ st.fr 7 = .int .i64 ((i + j : Nat) : Int) ∧ st.h 0 = ⟨22, (es ++ List.replicate j spareRow) ++ List.replicate (r - j) .nil, true, true, true⟩ ∧ (∀ k, k ≠ 0 → st.h k = h1 k) ∧ j ≤ r) (fun j => r - j) 0
        ⟨(by simp [upd_app, g0] <;> omega), (by simp [upd_app, g5] <;> omega), (by simp [upd_app] <;> omega), by simpa using hm, fun k hk => rfl, by omega⟩ ?_
      rintro j ⟨fr2, h2, nx2⟩ ⟨s0, s5, s7, hm2, hold2, hj⟩ J2 hJ2
      simp only at s0 s5 s7 hm2 hold2
      have hlen2 : ((es ++ List.replicate j spareRow) ++ List.replicate (r - j) AV.nil).length = i + r := by simp [hel]; omega
      by_cases hjr : j < r
      · have hl3 : (es ++ List.replicate j spareRow).length = i + j := by simp [hel]
        have hset2 : ((es ++ List.replicate j spareRow) ++ List.replicate (r - j) AV.nil).set (i + j) (.sl 9 [.str [126, 115, 112, 97, 114, 101, 126]] [] true) = (es ++ List.replicate (j + 1) spareRow) ++ List.replicate (r - (j + 1)) AV.nil := by
          rw [rep_set' hl3 (by omega), List.replicate_succ', List.append_assoc es]; rfl
        have hget2 : ((es ++ List.replicate j spareRow) ++ List.replicate (r - j) AV.nil)[i + j]? = some .nil := by rw [List.getElem?_append_right (by omega), hl3, Nat.sub_self, List.getElem?_replicate, if_pos (by omega)]
        simp (disch := omega) only [go_sem, Nat.reduceEqDiff, Nat.reduceBEq, ↓reduceIte, reduceCtorEq, s0, s5, s7, hm2, hlen2, hset2, hget2]
        exact hJ2 (j + 1) _ ⟨(by simp [upd_app, s0] <;> omega), (by simp [upd_app, s5] <;> omega), (by simp [upd_app, s7] <;> omega), by simp [upd_app], fun k hk => by simp only [upd_app, if_neg hk, hold2 k hk], hjr⟩ (by omega)
      · obtain rfl : j = r := by omega
        rw [Nat.sub_self, List.replicate_zero, List.append_nil] at hm2 hlen2
        simp (disch := omega) only [go_sem, Nat.reduceEqDiff, Nat.reduceBEq, ↓reduceIte, reduceCtorEq, s0, s5, s7, hm2, hlen2, rowsT_len, hn']
        rw [← hQ]
        have HR2 := HR.keep (h' := h2) (hi' := nx1) (Nat.le_refl _) (fun k hk _ => hold2 k (by omega))
        obtain ⟨ids, q1, q2, q3⟩ := RowsN.own (st := (⟨_, h2, nx2⟩ : St)) (d := 6) HR2
        refine ⟨trivial, .ref 0 (i + j) 0 i, by simp [resV, resL, resA, upd_app], 0 :: (ids ++ []), ?_, .inl rfl⟩
        simp only [if_true]
        refine ⟨?_, ?_⟩
        · rw [ownA_ref, if_pos ⟨by simp only; rw [hm2], by simp only; rw [hm2]; exact hlen2, rfl, by omega, by simp only; rw [hm2]⟩]
          simp only [hm2, if_true]
          rw [List.take_left' hel, List.drop_left' hel, q1, snapLo_pure spareRow_pure]
          simp
        · rw [List.append_nil]
          exact List.nodup_cons.2 ⟨fun hm => by have := (q3 _ hm).1; omega, q2⟩
theorem RowsN.app {h : Nat → Blk} {b : Bool} {mid hi : Nat} (hm : mid ≤ hi) : ∀ {lo : Nat} {ps qs : List Row} {es fs : List AV}, lo ≤ mid → RowsN h b mid lo ps es → RowsN h b hi mid qs fs → RowsN h b hi lo (ps ++ qs) (es ++ fs)
  | lo, [], qs, [], fs, hl, _, H2 => by
    have low : ∀ {lo' lo : Nat} {qs : List Row} {fs : List AV}, lo ≤ lo' → RowsN h b hi lo' qs fs → RowsN h b hi lo qs fs := by
      intro lo' lo qs
      induction qs generalizing lo' lo with
      | nil => intro fs h1 H; cases fs with
        | nil => trivial
        | cons _ _ => exact H.elim
      | cons q qs ih => intro fs h1 H; cases fs with
        | nil => exact H.elim
        | cons f fs =>
          unfold RowsN at H ⊢
          split at H
          · rename_i hn; rw [if_pos hn]; exact ⟨H.1, ih h1 H.2⟩
          · rename_i hn; rw [if_neg hn]
            obtain ⟨id, k1, k⟩ := H
            exact ⟨id, by omega, k⟩
    exact low hl H2
  | lo, p :: ps, qs, e :: es, fs, hl, H, H2 => by
    show RowsN h b hi lo (p :: (ps ++ qs)) (e :: (es ++ fs))
    unfold RowsN at H ⊢
    split at H
    · rename_i hn; rw [if_pos hn]; exact ⟨H.1, RowsN.app hm hl H.2 H2⟩
    · rename_i hn; rw [if_neg hn]
      obtain ⟨id, k1, k2, k3, k4, H⟩ := H
      exact ⟨id, k1, by omega, k3, k4, RowsN.app hm (by omega) H H2⟩
  | _, [], _, _ :: _, _, _, H, _ => H.elim
  | _, _ :: _, _, [], _, _, H, _ => H.elim
def nestNil (b : Bool) (rs : List Row) : Prop := b = true ∧ rs = []
instance (b : Bool) (rs : List Row) : Decidable (nestNil b rs) := by unfold nestNil; infer_instance
def ownSS (b : Bool) (rs : List Row) (k : Nat) : AV := if nestNil b rs then .nil else .own 22 (rs.map (ownP b)) (List.replicate k spareRow) true
def snpSS (b : Bool) (rs : List Row) : AV := if nestNil b rs then .nil else .sl 22 (rs.map (snpP b)) [] false
def NestN (h : Nat → Blk) (b : Bool) (hi lo : Nat) (rs : List Row) (k : Nat) (e : AV) : Prop :=
 if nestNil b rs then e = .nil else ∃ o es, lo ≤ o ∧ o < hi ∧ e = .ref o (rs.length + k) 0 rs.length ∧ h o = ⟨22, es ++ List.replicate k spareRow, true, true, true⟩ ∧ RowsN h b o lo rs es
section
variable {h h' : Nat → Blk} {b : Bool} {hi hi' lo : Nat} {rs : List Row} {k : Nat} {e : AV}
theorem NestN.keep (H : NestN h b hi lo rs k e) (h1 : ∀ i, lo ≤ i → i < hi → h' i = h i) (h2 : hi ≤ hi') : NestN h' b hi' lo rs k e := by
  unfold NestN at H ⊢
  split at H
  · rename_i hn; rw [if_pos hn]; exact H
  · rename_i hn; rw [if_neg hn]
    obtain ⟨o, es, k1, k2, k3, k4, k5⟩ := H
    exact ⟨o, es, k1, by omega, k3, by rw [h1 o k1 k2, k4], k5.keep (Nat.le_refl _) (fun i a c => h1 i a (by omega))⟩
theorem NestN.snap {st : St} {d : Nat} (H : NestN st.h b hi lo rs k e) : ∃ ids, snapA st (d + 2) e = some (snpSS b rs, ids) := by
  unfold NestN at H
  unfold snpSS
  split at H
  · rename_i hn; rw [if_pos hn, H]; exact ⟨[], snapA_pure rfl⟩
  · rename_i hn; rw [if_neg hn]
    obtain ⟨o, es, k1, k2, k3, k4, k5⟩ := H
    obtain ⟨ids, q⟩ := RowsN.snap (st := st) (d := d) k5
    have hl := k5.len
    refine ⟨o :: ids, ?_⟩
    rw [k3, snapA_ref, k4]
    simp only [List.length_append, List.length_replicate, hl, List.drop_zero]
    rw [if_pos ⟨trivial, trivial, by omega⟩, List.take_left' hl, q]
    simp
theorem NestN.own {st : St} {d : Nat} (H : NestN st.h b hi lo rs k e) : ∃ ids, ownA st (d + 2) e = some (ownSS b rs k, ids) ∧ ids.Nodup ∧ ∀ i ∈ ids, lo ≤ i ∧ i < hi := by
  unfold NestN at H
  unfold ownSS
  split at H
  · rename_i hn; rw [if_pos hn, H]; exact ⟨[], ownA_pure rfl, by simp, by simp⟩
  · rename_i hn; rw [if_neg hn]
    obtain ⟨o, es, k1, k2, k3, k4, k5⟩ := H
    obtain ⟨ids, q, q2, q3⟩ := RowsN.own (st := st) (d := d) k5
    have hl := k5.len
    refine ⟨o :: (ids ++ []), ?_, ?_, ?_⟩
    · rw [k3, ownA_ref, k4]
      simp only [List.length_append, List.length_replicate, hl]
      rw [if_pos ⟨trivial, trivial, trivial, by omega, trivial⟩, List.take_left' hl, List.drop_left' hl, q]
      simp only [if_true, Option.bind_some]
      rw [snapLo_pure spareRow_pure]
      simp
    · rw [List.append_nil]; exact List.nodup_cons.2 ⟨fun hm => by have := (q3 _ hm).2; omega, q2⟩
    · intro i hi
      rw [List.append_nil] at hi
      rcases List.mem_cons.1 hi with rfl | hi
      · exact ⟨k1, k2⟩
      · have := q3 i hi; omega
theorem matA_SS (st : St) : ∃ e st', matA true (ownSS b rs k) st = (e, st') ∧ st'.fr = st.fr ∧ st.nx ≤ st'.nx ∧ (∀ i, i < st.nx → st'.h i = st.h i) ∧ NestN st'.h b st'.nx st.nx rs k e := by
  unfold ownSS NestN
  by_cases hn : nestNil b rs
  · simp only [if_pos hn]; exact ⟨.nil, st, rfl, rfl, Nat.le_refl _, fun _ _ => rfl, rfl⟩
  · simp only [if_neg hn]
    obtain ⟨es, st1, h1, h2, h3, h4, h5⟩ := matL_own (b := b) rs st
    have hl := h5.len
    refine ⟨.ref st1.nx (rs.length + k) 0 rs.length, st1.new ⟨22, es ++ List.replicate k spareRow, true, true, true⟩, ?_, h2, by simp [St.new]; omega, fun i hi => ?_, st1.nx, es, h3, by simp [St.new], rfl, by simp [St.new, upd], ?_⟩
    · rw [matA, h1]
      simp only [matL_pure _ _ _ spareRow_pure, List.length_map, List.length_replicate]
    · rw [← h4 i hi]; simp [St.new, upd]; omega
    · exact h5.keep (Nat.le_refl _) (fun i a c => by simp [St.new, upd]; omega)
end
theorem matA_P {b : Bool} (p : Row) (st : St) : ∃ e st', matA true (ownP b p) st = (e, st') ∧ st'.fr = st.fr ∧ st.nx ≤ st'.nx ∧ (∀ i, i < st.nx → st'.h i = st.h i) ∧ RowsN st'.h b st'.nx st.nx [p] [e] := by
 obtain ⟨es, st', h1, h2, h3, h4, h5⟩ := matL_own (b := b) [p] st
 rw [List.map_cons, List.map_nil, matL, matL] at h1
 cases h1
 exact ⟨_, _, rfl, h2, h3, h4, h5⟩
theorem snapS2 {st : St} {i j m n : Nat} {xs ys : List (List UInt8)} {ex ex' gr gr' : Bool} (hi : st.h i = ⟨9, strA xs, ex, gr, true⟩) (hj : st.h j = ⟨9, strA ys, ex', gr', true⟩) (hm : xs.length = m) (hn : ys.length = n) :
  snapL (snapA st 8) [.ref i m 0 m, .ref j n 0 n] = some ([.sl 9 (strA xs) [] false, .sl 9 (strA ys) [] false], [i, j]) := by
 have h1 := snap_strs hi hm (Nat.le_refl _)
 have h2 := snap_strs hj hn (Nat.le_refl _)
 rw [List.take_of_length_le (by omega)] at h1 h2
 exact snap_two h1 h2
theorem i_intact {fr : Nat → AV} {h : Nat → Blk} {nx i j n N : Nat} {xs sp : List (List UInt8)} (hi : h i = ⟨9, strA (xs ++ sp), true, true, true⟩) (hj : h j = ⟨9, strA (xs ++ sp), true, true, true⟩) (hn : xs.length = n) (hN : n + roomB n = N) (hsp : sp.length = roomB n) (hl : n ≤ 1000000) :
  InOk Tryz.prog ⟨fr, h, nx⟩ 15 [.ref i N 0 n, .ref j N 0 n] (.bool true) ⟨fr, h, nx⟩ := by
 refine inOk_of_wpc (W := fun _ => false) hm' Tryz.func15 rfl (by kernel_rfl) (Nat.le_of_ble_eq_true rfl) (go_start ?_)
 generalize hQ : PostIn Tryz.prog Tryz.f15 _ _ _ = Q
 have hrl := room_le n
 have hall : (xs ++ sp).length = N := by simp; omega
 have hal : (strA (xs ++ sp)).length = N := by rw [strA_length, hall]
 have hroom := cw (by kernel_rfl) (by simp [AV.pure, AV.pureL]) (by simp [AV.pure, AV.pureL]) (l_room n (by omega))
 have heq := l_eq (xs ++ sp) (xs ++ sp) (by omega) (by omega)
 rw [decide_eq_true rfl] at heq
 simp (disch := omega) only [go_sem, Nat.reduceEqDiff, Nat.reduceBEq, ↓reduceIte, reduceCtorEq, hi, hj, hal, hroom]
 (repeat (with_reducible refine Or.inr ?_))
 simp (disch := omega) only [go_sem, Nat.reduceEqDiff, Nat.reduceBEq, ↓reduceIte, reduceCtorEq, hi, hj, hal, hN]
 refine callW_S heq (by kernel_rfl) (snapS2 hi hj hall hall) rfl rfl ?_
 simp (disch := omega) only [go_sem, Nat.reduceEqDiff, Nat.reduceBEq, ↓reduceIte, reduceCtorEq]
 rw [← hQ]
 exact postIn_one (.inl rfl) rfl (by simp [upd_app] <;> omega) rfl rfl
theorem cl_sz2 : callable Tryz.prog 10 = true := by kernel_rfl
theorem cl_to2 : callable Tryz.prog 13 = true := by kernel_rfl
def szR : List Txs → Int → Int
 | [], l => l
 | r :: rs, l => if szS r l < 0 then -1 else szR rs (szS r l)
def szSS (rs : List Txs) (l : Int) : Int := if l - rs.length < 0 then -1 else szR rs (l - rs.length)
def txsLen (r : Txs) : Prop := r.length < 4611686018427387904 ∧ ∀ x ∈ r, x.length < 4611686018427387904
theorem szR_bd : ∀ {rs : List Txs} {l : Int}, 0 ≤ l → 0 ≤ szR rs l → (∀ r ∈ rs, (r.length : Int) ≤ l ∧ ∀ x ∈ r, (x.length : Int) ≤ l) ∧ szR rs l ≤ l
  | [], l, h0, h => ⟨by simp, by simp [szR]⟩
  | r :: rs, l, h0, h => by
    unfold szR at h ⊢
    by_cases c : szS r l < 0
    · rw [if_pos c] at h; omega
    · rw [if_neg c] at h ⊢
      obtain ⟨a1, a2, a3⟩ := szS_bd h0 (show 0 ≤ szS r l by omega)
      obtain ⟨b1, b2⟩ := szR_bd (show 0 ≤ szS r l by omega) h
      refine ⟨fun q hq => ?_, by omega⟩
      rcases List.mem_cons.1 hq with rfl | hq
      · exact ⟨a1, a2⟩
      · obtain ⟨c1, c2⟩ := b1 q hq
        exact ⟨by omega, fun x hx => by have := c2 x hx; omega⟩
theorem szSS_bd {rs : List Txs} {l : Int} (h0 : 0 ≤ l) (h : 0 ≤ szSS rs l) : (rs.length : Int) ≤ l ∧ (∀ r ∈ rs, (r.length : Int) ≤ l ∧ ∀ x ∈ r, (x.length : Int) ≤ l) ∧ szSS rs l ≤ l := by
  unfold szSS at h ⊢
  by_cases c : l - rs.length < 0
  · rw [if_pos c] at h; omega
  · rw [if_neg c] at h ⊢
    obtain ⟨b1, b2⟩ := szR_bd (show 0 ≤ l - rs.length by omega) h
    exact ⟨by omega, fun r hr => ⟨by have := (b1 r hr).1; omega, fun x hx => by have := (b1 r hr).2 x hx; omega⟩, by omega⟩
theorem szS_ge {xs : Txs} {l : Int} : -1 ≤ szS xs l := by
  unfold szS
  split
  · omega
  · rename_i h
    generalize hq : l - (xs.length : Int) = q at *
    clear hq l
    induction xs generalizing q with
    | nil => simp [szL]; omega
    | cons x xs ih =>
      unfold szL
      split
      · omega
      · exact ih _ (by assumption)
theorem l_szSS (rs : List Txs) (l : Int) (h0 : 0 ≤ l) (h1 : l ≤ 1000000) (hn : rs.length < 4611686018427387904) (hs : ∀ r ∈ rs, txsLen r) :
    CallOk Tryz.prog 10 [.sl 22 (rowsT rs) [] false, .int .i64 l] (.int .i64 (szSS rs l)) [] := by
  obtain ⟨n, hn'⟩ : ∃ n, rs.length = n := ⟨_, rfl⟩
  unfold szSS
  rw [hn'] at hn ⊢
  by_cases c : l - n < 0
  · rw [if_pos c]
    (refine callOk_of_wpc (W := fun _ => false) false hm' Tryz.func10 rfl (by kernel_rfl) (Nat.le_of_ble_eq_true rfl) (go_start ?_); generalize hQ : Post Tryz.prog Tryz.f10 _ _ _ _ _ = Q; simp only [stIn, matL, matA, st00])
    simp (disch := omega) only [go_sem, Nat.reduceEqDiff, Nat.reduceBEq, ↓reduceIte, reduceCtorEq, rowsT_len, hn']
    rw [← hQ]
    exact post_one (.inl rfl) rfl (by simp [upd_app] <;> omega) rfl
  · rw [if_neg c]
    obtain ⟨a, ha⟩ : ∃ a, szR rs (l - n) = a := ⟨_, rfl⟩
    rw [ha]
    (refine callOk_of_wpc (W := fun _ => false) false hm' Tryz.func10 rfl (by kernel_rfl) (Nat.le_of_ble_eq_true rfl) (go_start ?_); generalize hQ : Post Tryz.prog Tryz.f10 _ _ _ _ _ = Q; simp only [stIn, matL, matA, st00])
    simp (disch := omega) only [go_sem, Nat.reduceEqDiff, Nat.reduceBEq, ↓reduceIte, reduceCtorEq, rowsT_len, hn']
    refine k_loop (fun (⟨i, q⟩ : Nat × Int) st => st.fr 0 = .sl 22 (rowsT rs) [] false ∧ st.fr 1 = .int .i64 q ∧ st.fr 5 = .int .i64 i ∧ i ≤ n ∧ 0 ≤ q ∧ q ≤ 1000000 ∧ szR (rs.drop i) q = a) (fun (⟨i, _⟩ : Nat × Int) => n - i) (0, l - n)
      ⟨(by simp [upd_app] <;> omega), (by simp [upd_app] <;> omega), (by simp [upd_app] <;> omega), by omega, by omega, by omega, by simpa using ha⟩ ?_
    rintro ⟨i, q⟩ ⟨fr, h, nx⟩ ⟨g0, g1, g5, hi, q0, q1, hq⟩ J hJ
    simp only at g0 g1 g5 hi q0 q1 hq
    by_cases hin : i < n
    · obtain ⟨r, hr⟩ := get_some (xs := rs) (i := i) (by omega)
      have rtx := rowsT_at hr
      obtain ⟨t1, t2⟩ := hs r (List.mem_of_getElem? hr)
      have hz := cw (by kernel_rfl) (by simp [AV.pure, AV.pureL]) (by simp [AV.pure, AV.pureL]) (l_sz r q q0 q1 t1 t2)
      rw [drop_cons hr, szR] at hq
      have hge := szS_ge (xs := r) (l := q)
      have hbd : 0 ≤ szS r q → szS r q ≤ q := fun h => (szS_bd q0 h).2.2
      generalize szS r q = z at *
      by_cases hz0 : z < 0
      · rw [if_pos hz0] at hq
        rw [← hq] at hQ
        simp (disch := omega) only [go_sem, Nat.reduceEqDiff, Nat.reduceBEq, ↓reduceIte, reduceCtorEq, g0, g1, g5, rtx, rowsT_len, hn', hz]
        (repeat (with_reducible refine Or.inr ?_))
        rw [← hQ]
        exact post_one (.inl rfl) rfl (by simp [upd_app] <;> omega) rfl
      · rw [if_neg hz0] at hq
        have := hbd (by omega)
        simp (disch := omega) only [go_sem, Nat.reduceEqDiff, Nat.reduceBEq, ↓reduceIte, reduceCtorEq, g0, g1, g5, rtx, rowsT_len, hn', hz]
        (repeat (with_reducible refine Or.inr ?_))
        exact hJ (i + 1, z) _ ⟨(by simp [upd_app, g0] <;> omega), (by simp [upd_app] <;> omega), (by simp [upd_app] <;> omega), hin, by omega, by omega, hq⟩ (by simp only; omega)
    · obtain rfl : i = n := by omega
      rw [List.drop_eq_nil_of_le (by omega), szR] at hq
      rw [← hq] at hQ
      simp (disch := omega) only [go_sem, Nat.reduceEqDiff, Nat.reduceBEq, ↓reduceIte, reduceCtorEq, g0, g1, g5, rowsT_len, hn']
      rw [← hQ]
      exact post_one (.inl rfl) rfl (by simp [upd_app] <;> omega) rfl
theorem l_eqSp (k : Nat) (hk : k ≤ 2000000) : CallOk Tryz.prog 36 [.sl 22 (List.replicate k spareRow) [] false, .sl 22 (List.replicate k spareRow) [] false] (.bool true) [] := by
  have heq := l_eq [spareT] [spareT] (by simp) (by simp)
  rw [decide_eq_true rfl] at heq
  generalize hys : strA [spareT] = ys at *
  have hyp : AV.pureL ys = true := by rw [← hys]; exact strA_pure _
  have heq2 : CallOk Tryz.prog 35 [.sl 9 ys [] true, .sl 9 ys [] true] (.bool true) [] := heq.args (SubL.cons sub_sl (SubL.cons sub_sl .nil))
  have hcw := cw (by kernel_rfl) (by simp [AV.pure, AV.pureL, hyp]) (by simp [AV.pure, AV.pureL]) heq2
  have hat : ∀ i, i < k → (List.replicate k spareRow)[i]? = some (.sl 9 ys [] true) := fun i hi => by rw [List.getElem?_replicate, if_pos hi, spareRow, hys]
  have hlen : (List.replicate k spareRow).length = k := by simp
  have hpu := spareRow_pure (k := k)
  generalize List.replicate k spareRow = sp at *
  have hu : AV.pureL [AV.sl 22 sp [] false, AV.sl 22 sp [] false] = true := by simp [AV.pure, AV.pureL, hpu]
  (refine callOk_of_wpc (W := fun _ => false) false hm' Tryz.func36 rfl (by kernel_rfl) (Nat.le_of_ble_eq_true rfl) (go_start ?_); generalize hQ : Post Tryz.prog Tryz.f36 _ _ _ _ _ = Q; simp only [stIn, matL, matA, st00, matL_pure _ _ _ hu])
  simp (disch := omega) only [go_sem, Nat.reduceEqDiff, Nat.reduceBEq, ↓reduceIte, reduceCtorEq, hlen]
  refine k_loop (fun (i : Nat) st => st.fr 0 = .sl 22 sp [] false ∧ st.fr 1 = .sl 22 sp [] false ∧ st.fr 5 = .int .i64 i ∧ i ≤ k) (fun i => k - i) 0 ⟨(by simp [upd_app] <;> omega), (by simp [upd_app] <;> omega), (by simp [upd_app] <;> omega), by omega⟩ ?_
  rintro i ⟨fr, h, nx⟩ ⟨g0, g1, g5, hi⟩ J hJ
  simp only at g0 g1 g5
  by_cases hin : i < k
  · have hati := hat i hin
    simp (disch := omega) only [go_sem, Nat.reduceEqDiff, Nat.reduceBEq, ↓reduceIte, reduceCtorEq, g0, g1, g5, hlen, hati, hcw]
    (repeat (with_reducible refine Or.inr ?_))
    exact hJ (i + 1) _ ⟨(by simp [upd_app, g0] <;> omega), (by simp [upd_app, g1] <;> omega), (by simp [upd_app] <;> omega), hin⟩ (by omega)
  · obtain rfl : i = k := by omega
    simp (disch := omega) only [go_sem, Nat.reduceEqDiff, Nat.reduceBEq, ↓reduceIte, reduceCtorEq, g0, g1, g5, hlen]
    rw [← hQ]
    exact post_one (.inl rfl) rfl (by simp [upd_app] <;> omega) rfl
theorem snapSp {st : St} {o N n r : Nat} {es : List AV} (h : st.h o = ⟨22, es ++ List.replicate r spareRow, true, true, true⟩) (he : es.length = n) (hN : n + r = N) : snapA st 8 (.ref o N n r) = some (.sl 22 (List.replicate r spareRow) [] false, [o]) := by
 rw [snapA_ref, h]
 simp only [List.length_append, List.length_replicate, he]
 rw [if_pos ⟨trivial, hN, by omega⟩, List.drop_left' he, List.take_of_length_le (by simp), snapL_pure spareRow_pure]
 rfl
theorem nil_false {p : Row} : ¬ rowNil false p := fun h => by cases h.1
set_option maxHeartbeats 1000000 in
theorem i_intactSS {fr : Nat → AV} {h : Nat → Blk} {nx o1 o2 n N lo1 hi1 lo2 hi2 : Nat} {rs : List Txs} {es1 es2 : List AV} (h1 : h o1 = ⟨22, es1 ++ List.replicate (roomB n) spareRow, true, true, true⟩) (h2 : h o2 = ⟨22, es2 ++ List.replicate (roomB n) spareRow, true, true, true⟩)
    (R1 : RowsN h false hi1 lo1 (rowsP rs) es1) (R2 : RowsN h false hi2 lo2 (rowsP rs) es2) (hn : rs.length = n) (hN : n + roomB n = N) (hl : n ≤ 1000000) (hr : ∀ r ∈ rs, r.length ≤ 1000000) :
    InOk Tryz.prog ⟨fr, h, nx⟩ 16 [.ref o1 N 0 n, .ref o2 N 0 n] (.bool true) ⟨fr, h, nx⟩ := by
  refine inOk_of_wpc (W := fun _ => false) hm' Tryz.func16 rfl (by kernel_rfl) (Nat.le_of_ble_eq_true rfl) (go_start ?_)
  generalize hQ : PostIn Tryz.prog Tryz.f16 _ _ _ = Q
  have hrl := room_le n
  have hroom := cw (by kernel_rfl) (by simp [AV.pure, AV.pureL]) (by simp [AV.pure, AV.pureL]) (l_room n (by omega))
  have he1 : es1.length = n := by rw [R1.len, rowsP_len, hn]
  have he2 : es2.length = n := by rw [R2.len, rowsP_len, hn]
  have hL1 : (es1 ++ List.replicate (roomB n) spareRow).length = N := by simp; omega
  have hL2 : (es2 ++ List.replicate (roomB n) spareRow).length = N := by simp; omega
  have heq := l_eqSp (roomB n) (by omega)
  have hs : ∀ fr' : Nat → AV, snapL (snapA (⟨fr', h, nx⟩ : St) 8) [.ref o1 N n (roomB n), .ref o2 N n (roomB n)] = some ([.sl 22 (List.replicate (roomB n) spareRow) [] false, .sl 22 (List.replicate (roomB n) spareRow) [] false], [o1, o2]) := fun fr' => by
    simp [snapL, snapSp (st := ⟨fr', h, nx⟩) h1 he1 hN, snapSp (st := ⟨fr', h, nx⟩) h2 he2 hN]
  have hNr : N - n = roomB n := by omega
  generalize hB1 : es1 ++ List.replicate (roomB n) spareRow = B1 at *
  generalize hB2 : es2 ++ List.replicate (roomB n) spareRow = B2 at *
  generalize roomB n = rm at *
  simp (disch := omega) only [go_sem, Nat.reduceEqDiff, Nat.reduceBEq, ↓reduceIte, reduceCtorEq, h1, h2, hL1, hL2, hroom, hN]
  (repeat (with_reducible refine Or.inr ?_))
  refine k_loop (fun (i : Nat) st => st.fr 0 = .ref o1 N 0 n ∧ st.fr 1 = .ref o2 N 0 n ∧ st.fr 5 = .int .i64 N ∧ st.fr 6 = .int .i64 i ∧ st.h = h ∧ st.nx = nx ∧ i ≤ n) (fun i => n - i) 0 ⟨(by simp [upd_app] <;> omega), (by simp [upd_app] <;> omega), (by simp [upd_app] <;> omega), (by simp [upd_app] <;> omega), rfl, rfl, by omega⟩ ?_
  rintro i ⟨fr1, h', nx'⟩ ⟨g0, g1, g5, g6, eh, enx, hi⟩ J hJ
  simp only at g0 g1 g5 g6 eh enx
  subst eh enx
  by_cases hin : i < n
  · obtain ⟨x, hx⟩ := get_some (xs := rs) (i := i) (by omega)
    have hxl := hr x (List.mem_of_getElem? hx)
    obtain ⟨id1, _, _, e1, b1⟩ := R1.at_ (rowsP_at hx) nil_false
    obtain ⟨id2, _, _, e2, b2⟩ := R2.at_ (rowsP_at hx) nil_false
    simp only at e1 e2
    have a1 : B1[i]? = some (.ref id1 (x.length + (spareL x.length).length) 0 x.length) := by rw [← hB1, List.getElem?_append_left (by omega)]; exact e1
    have a2 : B2[i]? = some (.ref id2 (x.length + (spareL x.length).length) 0 x.length) := by rw [← hB2, List.getElem?_append_left (by omega)]; exact e2
    have hsl : (spareL x.length).length = roomB x.length := by rw [spareL]; simp
    simp (disch := omega) only [go_sem, Nat.reduceEqDiff, Nat.reduceBEq, ↓reduceIte, reduceCtorEq, g0, g1, g5, g6, h1, h2, hL1, hL2, a1, a2]
    refine callW_I (i_intact (i := id1) (j := id2) (xs := x) (sp := spareL x.length) b1 b2 rfl (by rw [hsl]) hsl hxl) (by kernel_rfl) (.inr ⟨rfl, rfl⟩) ?_
    simp (disch := omega) only [go_sem, Nat.reduceEqDiff, Nat.reduceBEq, ↓reduceIte, reduceCtorEq, g0, g1, g5, g6, h1, h2, hL1, hL2]
    exact hJ (i + 1) _ ⟨(by simp [upd_app, g0] <;> omega), (by simp [upd_app, g1] <;> omega), (by simp [upd_app, g5] <;> omega), (by simp [upd_app] <;> omega), rfl, rfl, hin⟩ (by omega)
  · obtain rfl : i = n := by omega
    simp (disch := omega) only [go_sem, Nat.reduceEqDiff, Nat.reduceBEq, ↓reduceIte, reduceCtorEq, g0, g1, g5, g6, h1, h2, hL1, hL2, hNr]
    refine callW_S heq (by kernel_rfl) (hs _) rfl rfl ?_
    simp (disch := omega) only [go_sem, Nat.reduceEqDiff, Nat.reduceBEq, ↓reduceIte, reduceCtorEq]
    rw [← hQ]
    exact postIn_one (.inl rfl) rfl (by simp [upd_app] <;> omega) rfl rfl
structure Mdl where
 room : Int
 come : List UInt8
 serve : List UInt8
 reward : List UInt8
 cost : List UInt8
abbrev Mdl.av (m : Mdl) : AV := .agg [.int .i64 m.room, .str m.come, .str m.serve, .str m.reward, .str m.cost]
def Mdl.small (m : Mdl) : Prop := m.come.length ≤ 1000000 ∧ m.serve.length ≤ 1000000 ∧ m.reward.length ≤ 1000000 ∧ m.cost.length ≤ 1000000
structure MR where
 room : Nat
 come : Rat
 serve : Rat
 reward : Rat
 cost : Rat
def modOk (m : Mdl) (c s r k : Rat) : Prop := 1 ≤ m.room ∧ m.room ≤ 8 ∧ 0 < c ∧ 0 < s ∧ 0 ≤ r ∧ 0 ≤ k ∧ c + s ≤ 1
instance (m : Mdl) (c s r k : Rat) : Decidable (modOk m c s r k) := by unfold modOk; infer_instance
abbrev MR.sv (x : MR) : AV := .agg [.int .i64 x.room, .bool (decide (x.come.num < 0)), tS 700 x.come, dS 700 x.come, .bool (decide (x.serve.num < 0)), tS 700 x.serve, dS 700 x.serve,
 .bool (decide ((1 - x.come - x.serve).num < 0)), tS 1466 (1 - x.come - x.serve), dS 1466 (1 - x.come - x.serve), .bool (decide (x.reward.num < 0)), tS 700 x.reward, dS 700 x.reward, .bool (decide (x.cost.num < 0)), tS 700 x.cost, dS 700 x.cost]
abbrev zeroMS : AV := .agg [.int .i64 0, .bool false, .nil, .nil, .bool false, .nil, .nil, .bool false, .nil, .nil, .bool false, .nil, .nil, .bool false, .nil, .nil]
def modS : Option MR → AV
 | some x => .tup [x.sv, .bool true]
 | none => .tup [zeroMS, .bool false]
theorem modS_s (x : MR) : modS (some x) = .tup [x.sv, .bool true] := rfl
theorem modS_n : modS none = .tup [zeroMS, .bool false] := rfl
attribute [go_sem] modS_s modS_n
theorem tn0 : Int.toNat 0 = 0 := rfl
theorem tn1 : Int.toNat 1 = 1 := rfl
attribute [go_sem] tn0 tn1
theorem gen_readRat {s : List UInt8} (hs : s.length ≤ 1000000) : ∃ x y z, CW Tryz.prog 48 [.str s] (.tup [.agg [x, y, z], .bool (parseR s).isSome]) ∧ x.one = true ∧ y.one = true ∧ z.one = true := by
 have h := w_readRat (s := s) (by omega)
 cases hq : parseR s with
 | none => rw [hq] at h; exact ⟨_, _, _, h, rfl, rfl, rfl⟩
 | some q => rw [hq] at h; exact ⟨_, _, _, h, rfl, by simp, by simp⟩
def posR (s : List UInt8) : Option Rat := match parseR s with | some q => if 0 < q then some q else none | none => none
def posI : Option Rat → AV
 | some q => .tup [rI 700 q, .bool (decide (0 < q))]
 | none => .tup [.agg [.bool false, .nil, .nil], .bool false]
theorem posI_s (q : Rat) : posI (some q) = .tup [rI 700 q, .bool (decide (0 < q))] := rfl
theorem posI_n : posI none = .tup [.agg [.bool false, .nil, .nil], .bool false] := rfl
@[simp] theorem posI_pure (o : Option Rat) : (posI o).pure = true := by cases o <;> simp [posI, AV.pure, AV.pureL]
attribute [go_sem] posI_s posI_n
theorem sign_pos (q : Rat) : decide (0 < q.num.sign) = decide (0 < q) := by
  have h1 : 0 < q.num ↔ 0 < q := by
    have a := Rat.num_nonneg (q := q)
    have b := num_zero (a := q)
    constructor
    · intro h; exact Rat.lt_of_le_of_ne (a.1 (by omega)) (fun e => by rw [← e] at h; simp at h)
    · intro h
      have h2 := a.2 (Rat.le_of_lt h)
      have h3 : q.num ≠ 0 := fun e => by rw [b.1 e] at h; exact Rat.lt_irrefl h
      omega
  have h2 : 0 < q.num.sign ↔ 0 < q.num := by
    rcases Int.lt_trichotomy q.num 0 with h | h | h
    · rw [Int.sign_eq_neg_one_of_neg h]; omega
    · rw [h]; simp
    · rw [Int.sign_eq_one_of_pos h]; omega
  exact decide_eq_decide.2 (h2.trans h1)
theorem w_positive {s : List UInt8} (hs : s.length ≤ 1000000) : CW Tryz.prog 49 [.str s] (posI (parseR s)) := by
 refine cw (by kernel_rfl) (by simp [AV.pure, AV.pureL]) (by simp [AV.pure, AV.pureL]) ?_
 have h := w_readRat (s := s) (by omega)
 cases hq : parseR s with
 | none =>
  rw [hq] at h
  (refine callOk_of_wpc (W := fun _ => false) false hm' Tryz.func49 rfl (by kernel_rfl) (Nat.le_of_ble_eq_true rfl) (go_start ?_); generalize hQ : Post Tryz.prog Tryz.f49 _ _ _ _ _ = Q; simp only [stIn, matL, matA, st00])
  simp (disch := omega) only [go_sem, Nat.reduceEqDiff, Nat.reduceBEq, ↓reduceIte, reduceCtorEq, h]
  (repeat (with_reducible refine Or.inr ?_))
  rw [← hQ]
  exact post_cell (id := 0) (x := .agg [.bool false, .nil, .nil]) (.inl rfl) rfl o_iRat (by simp [upd_app] <;> omega) (by simp [upd_app]) (by simp [upd_app]) ld_iRat (by simp [upd_app] <;> omega) rfl rfl
 | some q =>
  rw [hq] at h
  have hsg := sign_pos q
  have hs2 := w_sign (m := 700) (a := q) (by omega)
  rw [posI_s, ← hsg]
  generalize q.num.sign = sg at *
  by_cases hp : 0 < sg
  all_goals
   (refine callOk_of_wpc (W := fun _ => false) false hm' Tryz.func49 rfl (by kernel_rfl) (Nat.le_of_ble_eq_true rfl) (go_start ?_); generalize hQ : Post Tryz.prog Tryz.f49 _ _ _ _ _ = Q; simp only [stIn, matL, matA, st00])
   simp (disch := omega) only [go_sem, Nat.reduceEqDiff, Nat.reduceBEq, ↓reduceIte, reduceCtorEq, h, hs2]
   (repeat (with_reducible refine Or.inr ?_))
   rw [← hQ]
   exact post_cell (id := 0) (x := rI 700 q) (.inl rfl) rfl o_iRat (by simp [upd_app] <;> omega) (by simp [upd_app]) (by simp [upd_app]) ld_iRat (by simp [upd_app]; omega) (by simp [AV.pure, AV.pureL]) rfl
attribute [go_sem] w_positive
attribute [go_sem] w_positive
theorem w_positives {xs : List (List UInt8)} {ex : Bool} (hl : xs.length ≤ 1000000) (hs : ∀ x ∈ xs, x.length ≤ 1000000) : CW Tryz.prog 26 [.sl 9 (strA xs) [] ex] (optLI (xs.mapM posR)) := by
  refine cw (by kernel_rfl) (by simp [AV.pure, AV.pureL]) (by simp [AV.pure, AV.pureL]) ?_
  obtain ⟨n, hn⟩ : ∃ n, xs.length = n := ⟨_, rfl⟩
  rw [hn] at hl
  (refine callOk_of_wpc (W := fun _ => false) false hm' Tryz.func26 rfl (by kernel_rfl) (Nat.le_of_ble_eq_true rfl) (go_start ?_); generalize hQ : Post Tryz.prog Tryz.f26 _ _ _ _ _ = Q; simp only [stIn, matL, matA, st00])
  simp (disch := omega) only [go_sem, Nat.reduceEqDiff, Nat.reduceBEq, ↓reduceIte, reduceCtorEq, strA_length, hn]
  refine k_loop (fun (⟨i, qs⟩ : Nat × List Rat) st => st.fr 4 = .ref 0 i 0 i ∧ st.fr 10 = .sl 9 (strA xs) [] ex ∧ st.fr 11 = .int .i64 n ∧ st.fr 12 = .int .i64 i ∧ (∃ ex, st.h 0 = ⟨70, ratL 700 qs, ex, true, true⟩) ∧ 0 < st.nx ∧ (qs.length = i) ∧ (i ≤ n) ∧ ((xs.take i).mapM posR = some qs)) (fun (⟨i, qs⟩ : Nat × List Rat) => n - i) (0, [])
    ⟨(by simp [upd_app, ratL_nil] <;> omega), (by simp [upd_app, ratL_nil] <;> omega), (by simp [upd_app, ratL_nil] <;> omega), (by simp [upd_app, ratL_nil] <;> omega), ⟨true, (by simp [upd_app, ratL_nil] <;> omega)⟩, (by simp <;> omega), rfl, by omega, by simp⟩ ?_
  rintro ⟨i, qs⟩ ⟨fr, h, nx⟩ ⟨g4, g10, g11, g12, ⟨ex0, hm0⟩, hnx, hql, hi, hq⟩ J hJ
  simp only at g4 g10 g11 g12 hm0 hnx
  have n1 : (0 = nx) = False := by simp; omega
  have n2 : (nx = 0) = False := by simp; omega
  by_cases hin : i < n
  · obtain ⟨x, hx⟩ := get_some (xs := xs) (i := i) (by omega)
    have hxl := hs x (List.mem_of_getElem? hx)
    cases hp : parseR x with
    | none =>
      rw [mapM_fail hx (show posR x = none by simp [posR, hp])] at hQ
      simp (disch := omega) only [go_sem, Nat.reduceEqDiff, Nat.reduceBEq, ↓reduceIte, reduceCtorEq, g4, g10, g11, g12, strA_at, hx, strA_length, hn, hp]
      (repeat (with_reducible refine Or.inr ?_))
      rw [← hQ]
      exact post_two (.inl rfl) rfl (by simp [upd_app] <;> omega) (by simp [upd_app] <;> omega) rfl rfl
    | some q =>
      by_cases h0 : 0 < q
      · have hd : decide (0 < q) = true := by simpa using h0
        have hmt := mapM_take hq hx (show posR x = some q by simp [posR, hp, h0])
        simp (disch := omega) only [go_sem, Nat.reduceEqDiff, Nat.reduceBEq, ↓reduceIte, reduceCtorEq, g4, g10, g11, g12, hm0, strA_at, hx, strA_length, hn, hp, hd, n1, n2, hql, reach]
        (repeat (with_reducible refine Or.inr ?_))
        exact hJ (i + 1, qs ++ [q]) _ ⟨(by simp [upd_app] <;> omega), (by simp [upd_app, g10] <;> omega), (by simp [upd_app, g11] <;> omega), (by simp [upd_app] <;> omega), ⟨false, by simp [upd_app, n1, n2, hm0, ratL]⟩, (by simp <;> omega), by simp [hql], hin, hmt⟩ (by simp only; omega)
      · have hd : decide (0 < q) = false := by simpa using h0
        rw [mapM_fail hx (show posR x = none by simp [posR, hp, h0])] at hQ
        simp (disch := omega) only [go_sem, Nat.reduceEqDiff, Nat.reduceBEq, ↓reduceIte, reduceCtorEq, g4, g10, g11, g12, strA_at, hx, strA_length, hn, hp, hd]
        (repeat (with_reducible refine Or.inr ?_))
        rw [← hQ]
        exact post_two (.inl rfl) rfl (by simp [upd_app] <;> omega) (by simp [upd_app] <;> omega) rfl rfl
  · obtain rfl : i = n := by omega
    rw [List.take_of_length_le (by omega)] at hq
    rw [hq] at hQ
    simp (disch := omega) only [go_sem, Nat.reduceEqDiff, Nat.reduceBEq, ↓reduceIte, reduceCtorEq, g4, g10, g11, g12]
    rw [← hQ]
    have hfz : snapA (⟨_, h, nx⟩ : St) 7 (.ref 0 i 0 i) = some (.sl 70 (ratL 700 qs) [] false, [0]) := snap_frozen (st := ⟨fr, h, nx⟩) (d := 6) (by simp [hm0]) (by simp [hm0, ratL_length, hql]) (by simp [hm0]) (by simp) (by simp [hm0]; exact List.take_of_length_le (by simp [ratL_length, hql])) ratL_pure
    exact post_tup (.inl rfl) rfl (by simp [upd_app] <;> omega) (by simp [upd_app] <;> omega) hfz (snapA_pure rfl) (fun a _ => Nat.zero_le _) (.inl rfl)
abbrev MR.iv (x : MR) : AV := .agg [.int .i64 x.room, .bool (decide (x.come.num < 0)), tI 700 x.come, dI 700 x.come, .bool (decide (x.serve.num < 0)), tI 700 x.serve, dI 700 x.serve,
 .bool (decide (x.reward.num < 0)), tI 700 x.reward, dI 700 x.reward, .bool (decide (x.cost.num < 0)), tI 700 x.cost, dI 700 x.cost]
abbrev zeroMI : AV := .agg [.int .i64 0, .bool false, .nil, .nil, .bool false, .nil, .nil, .bool false, .nil, .nil, .bool false, .nil, .nil]
def modI : Option MR → AV
 | some x => .tup [x.iv, .bool true]
 | none => .tup [zeroMI, .bool false]
theorem modI_s (x : MR) : modI (some x) = .tup [x.iv, .bool true] := rfl
theorem modI_n : modI none = .tup [zeroMI, .bool false] := rfl
attribute [go_sem] modI_s modI_n
attribute [go_sem] w_positives
structure Ntw where
 arr : List (List UInt8)
 srv : List (List UInt8)
 rts : List (List (List UInt8))
structure NR where
 arr : List Rat
 srv : List Rat
 rts : List (List Rat)
def nonneg (qs : List Rat) : Bool := qs.all fun q => !decide (q < 0)
def rowQ (n : Nat) (xs : List (List UInt8)) : Option (List Rat) :=
 match listR xs with
 | some r => if r.length = n ∧ nonneg r = true ∧ ¬ 1 < sumL r then some r else none
 | none => none
def netOk (m : Ntw) : Prop := 1 ≤ m.srv.length ∧ m.srv.length ≤ 6 ∧ m.arr.length = m.srv.length ∧ m.rts.length = m.srv.length
instance (m : Ntw) : Decidable (netOk m) := by unfold netOk; infer_instance
def netQ (m : Ntw) : Option NR :=
 if netOk m then
  match listR m.arr, m.srv.mapM posR with
  | some a, some s => if nonneg a = true then (match m.rts.mapM (rowQ m.srv.length) with | some r => some ⟨a, s, r⟩ | none => none) else none
  | _, _ => none
 else none
theorem rowQ_some {n : Nat} {xs : List (List UInt8)} {r : List Rat} (h : rowQ n xs = some r) : listR xs = some r ∧ r.length = n ∧ nonneg r = true ∧ ¬ 1 < sumL r := by
  unfold rowQ at h
  split at h
  · split at h
    · cases h; exact ⟨by assumption, ‹_›⟩
    · cases h
  · cases h
theorem mapMo_len {α β : Type} {f : α → Option β} : ∀ {xs : List α} {ys : List β}, xs.mapM f = some ys → ys.length = xs.length
 | [], ys, h => by simp at h; simp [h]
 | x :: xs, ys, h => by
  simp only [List.mapM_cons, Option.bind_eq_bind, Option.bind_eq_some_iff, Option.pure_def, Option.some.injEq] at h
  obtain ⟨y, _, zs, hz, rfl⟩ := h
  simp [mapMo_len hz]
theorem mapMo_all {α β : Type} {f : α → Option β} {P : β → Prop} (hP : ∀ x y, f x = some y → P y) : ∀ {xs : List α} {ys : List β}, xs.mapM f = some ys → ∀ y ∈ ys, P y
  | [], ys, h => by simp at h; simp [h]
  | x :: xs, ys, h => by
    simp only [List.mapM_cons, Option.bind_eq_bind, Option.bind_eq_some_iff, Option.pure_def, Option.some.injEq] at h
    obtain ⟨y, hy, zs, hz, rfl⟩ := h
    intro z hm
    rcases List.mem_cons.1 hm with rfl | hm
    · exact hP _ _ hy
    · exact mapMo_all hP hz z hm
section
variable (lv : Nat → Bool) (nz : Nat → Nat → Bool) (n : Nat)
def eAny (S : Nat → Bool) (i j : Nat) : Bool := (List.range j).any fun k => nz i k && S k
def eStep (S : Nat → Bool) (i : Nat) : Nat → Bool := fun k => if k = i then S i || lv i || eAny nz S i n else S k
def eRow (S : Nat → Bool) : Nat → Nat → Bool
 | 0 => S
 | i + 1 => eStep lv nz n (eRow S i) i
def eAll : Nat → Nat → Bool
 | 0 => fun _ => false
 | t + 1 => eRow lv nz n (eAll t) n
def endsB : Bool := (List.range n).all (eAll lv nz n n)
end
theorem eAny_succ {nz : Nat → Nat → Bool} {S : Nat → Bool} {i j : Nat} : eAny nz S i (j + 1) = (eAny nz S i j || (nz i j && S j)) := by
 simp [eAny, List.range_succ]
theorem eAny_zero {nz : Nat → Nat → Bool} {S : Nat → Bool} {i : Nat} : eAny nz S i 0 = false := rfl
def eOut (lv : Nat → Bool) (nz : Nat → Nat → Bool) (S : Nat → Bool) (i j : Nat) : Nat → Bool := fun k => if k = i then S i || lv i || eAny nz S i j else S k
theorem eOut_full {lv : Nat → Bool} {nz : Nat → Nat → Bool} {n : Nat} {S : Nat → Bool} {i : Nat} : eOut lv nz S i n = eStep lv nz n S i := rfl
theorem eOut_zero {lv : Nat → Bool} {nz : Nat → Nat → Bool} {S : Nat → Bool} {i : Nat} : eOut lv nz S i 0 = fun k => if k = i then S i || lv i else S k := by
 funext k; simp [eOut, eAny_zero]
theorem eOut_succ {lv : Nat → Bool} {nz : Nat → Nat → Bool} {S : Nat → Bool} {i j : Nat} : (eOut lv nz S i j i || (nz i j && eOut lv nz S i j j)) = eOut lv nz S i (j + 1) i := by
  simp only [eOut, if_true, eAny_succ]
  by_cases h : j = i
  · subst h
    simp only [if_true]
    cases S j <;> cases lv j <;> cases eAny nz S j j <;> cases nz j j <;> rfl
  · rw [if_neg h]
    cases S i <;> cases lv i <;> cases eAny nz S i j <;> cases nz i j <;> cases S j <;> rfl
theorem eOut_other {lv : Nat → Bool} {nz : Nat → Nat → Bool} {S : Nat → Bool} {i j k : Nat} (h : k ≠ i) : eOut lv nz S i j k = S k := by simp [eOut, h]
def mapB (n : Nat) (S : Nat → Bool) : List Bool := (List.range n).map S
theorem mapB_len {n : Nat} {S : Nat → Bool} : (mapB n S).length = n := by simp [mapB]
theorem mapB_at {n i : Nat} {S : Nat → Bool} (h : i < n) : (mapB n S)[i]? = some (S i) := by simp [mapB, h]
theorem mapB_set {n i : Nat} {S T : Nat → Bool} {b : Bool} (hb : b = T i) (hT : ∀ k, k ≠ i → T k = S k) : (mapB n S).set i b = mapB n T := by
  apply List.ext_getElem
  · simp [mapB]
  · intro k h1 h2
    simp only [mapB, List.getElem_set, List.getElem_map, List.getElem_range]
    by_cases h : i = k
    · subst h; simp [hb]
    · rw [if_neg h, hT k (fun e => h e.symm)]
theorem mapB_false {n : Nat} : List.replicate n false = mapB n fun _ => false := by
 apply List.ext_getElem <;> simp [mapB]
def setL (S : Nat → Bool) (n : Nat) : List Nat := (List.range n).filter S
def putL : List Nat → Nat → List Nat
 | [], n => [n]
 | x :: xs, n => if x < n then x :: putL xs n else if x = n then x :: xs else n :: x :: xs
theorem putL_set {S T : Nat → Bool} {i : Nat} (hi : T i = true) (hT : ∀ k, k ≠ i → T k = S k) : ∀ (m a : Nat), a ≤ i → i < a + m → putL ((List.range' a m).filter S) i = (List.range' a m).filter T
  | 0, a, h1, h2 => by omega
  | m + 1, a, h1, h2 => by
    rw [List.range'_succ]
    by_cases e : a = i
    · subst e
      have hrest : (List.range' (a + 1) m).filter T = (List.range' (a + 1) m).filter S := List.filter_congr fun k hk => hT k (by have := List.mem_range'_1.1 hk; omega)
      rw [List.filter_cons, List.filter_cons, if_pos hi, hrest]
      by_cases hs : S a = true
      · rw [if_pos hs]; simp [putL]
      · rw [if_neg hs]
        have hgt : ∀ k ∈ (List.range' (a + 1) m).filter S, a < k := fun k hk => by
          have := List.mem_range'_1.1 (List.mem_filter.1 hk).1; omega
        cases hl : (List.range' (a + 1) m).filter S with
        | nil => simp [putL]
        | cons x xs =>
          have := hgt x (by rw [hl]; simp)
          simp only [putL]
          rw [if_neg (by omega), if_neg (by omega)]
    · have ih := putL_set hi hT m (a + 1) (by omega) (by omega)
      rw [List.filter_cons, List.filter_cons, hT a e]
      by_cases hs : S a = true
      · rw [if_pos hs, if_pos hs]
        simp only [putL]
        rw [if_pos (by omega), ih]
      · rw [if_neg hs, if_neg hs, ih]
theorem setL_put {S T : Nat → Bool} {i n : Nat} (h : i < n) (hi : T i = true) (hT : ∀ k, k ≠ i → T k = S k) : putL (setL S n) i = setL T n := by
 unfold setL; rw [List.range_eq_range']; exact putL_set hi hT n 0 (Nat.zero_le _) (by omega)
theorem setL_len {S : Nat → Bool} {n : Nat} : (setL S n).length ≤ n := by
 unfold setL; have := List.length_filter_le S (List.range n); simpa using this
theorem setL_all {S : Nat → Bool} {n : Nat} : decide ((setL S n).length = n) = (List.range n).all S := by
  unfold setL
  by_cases h : (List.range n).all S = true
  · rw [h, decide_eq_true]
    rw [List.filter_eq_self.2 (fun k hk => List.all_eq_true.1 h k hk)]; simp
  · have h' : (List.range n).all S = false := by simpa using h
    rw [h', decide_eq_false]
    intro hl
    refine h (List.all_eq_true.2 fun k hk => ?_)
    have := List.length_filter_eq_length_iff.1 (by simpa using hl) k hk
    exact this
theorem setL_has {S : Nat → Bool} {n k : Nat} (h : k < n) : (setL S n).contains k = S k := by
 unfold setL
 cases hs : S k with
 | true => simp [h, hs]
 | false => simp [hs]

def optT : Option (List UInt8) → AV
 | some s => .tup [.str s, .bool true]
 | none => .tup [.str [], .bool false]
theorem optT_s (s : List UInt8) : optT (some s) = .tup [.str s, .bool true] := rfl
theorem optT_n : optT none = .tup [.str [], .bool false] := rfl


theorem getD_of {qs : List Rat} {i : Nat} {q : Rat} (h : qs[i]? = some q) : qs.getD i 0 = q := by rw [List.getD_eq_getElem?_getD, h]; rfl
def negI : List Rat → Nat → Int
 | [], _ => -1
 | q :: qs, k => if q < 0 then (k : Int) else negI qs (k + 1)
theorem negI_ge : ∀ (qs : List Rat) (k : Nat), decide (0 ≤ negI qs k) = !(qs.all fun q => !decide (q < 0))
  | [], _ => by simp [negI]
  | q :: qs, k => by
    rw [negI]
    by_cases h : q < 0
    · simp [h]
    · rw [if_neg h, negI_ge qs (k + 1)]; simp [h]
theorem negI_at {qs : List Rat} {i : Nat} {q : Rat} (h : qs[i]? = some q) : negI (qs.drop i) i = if q < 0 then (i : Int) else negI (qs.drop (i + 1)) (i + 1) := by
 obtain ⟨hi, rfl⟩ := List.getElem?_eq_some_iff.1 h
 rw [List.drop_eq_getElem_cons hi, negI]
theorem t_bytes : elT Tryz.prog 147 = some 5 := by kernel_rfl
theorem o_bytes : okT Tryz.prog 147 = true := by kernel_rfl
theorem g_uint8 : aggT Tryz.prog 5 = false := by kernel_rfl
theorem i_uint8 : (Tryz.prog.info? 5).isSome = true := by kernel_rfl
theorem s_uint8 : szT Tryz.prog 5 = 1 := by kernel_rfl
theorem b_uint8 : byT Tryz.prog 5 = 1 := by kernel_rfl
theorem z_uint8 : zeroA Tryz.prog 5 = some (.int .u8 0) := by kernel_rfl
theorem zk_uint8 : zokT Tryz.prog 5 = true := by kernel_rfl
theorem w_uint8 : u32T Tryz.prog 5 = false := by kernel_rfl
theorem u8_uint8 : u8T Tryz.prog 5 = true := by kernel_rfl
attribute [go_sem] t_bytes o_bytes g_uint8 i_uint8 s_uint8 b_uint8 z_uint8 zk_uint8 w_uint8 u8_uint8

attribute [go_sem] optT_s optT_n



theorem all_take {qs : List Rat} {f : Rat → Bool} {i : Nat} {q : Rat} (h : qs[i]? = some q) : (qs.take (i + 1)).all f = ((qs.take i).all f && f q) := by
 rw [List.take_add_one, h]; simp
theorem all_bad {qs : List Rat} {f : Rat → Bool} {i : Nat} {q : Rat} (h : qs[i]? = some q) (hf : f q = false) : qs.all f = false := by
 simp only [List.all_eq_false]
 exact ⟨q, List.mem_of_getElem? h, by simp [hf]⟩
theorem w_sPositive {qs : List Rat} (hl : qs.length ≤ 1000) : CW Tryz.prog 18 [lS 700 qs] (.bool (qs.all fun q => !decide (q < 0))) := by
  refine cw (by kernel_rfl) (by simp [AV.pure, AV.pureL]) (by simp [AV.pure, AV.pureL]) ?_
  obtain ⟨L, hL⟩ : ∃ n, qs.length = n := ⟨_, rfl⟩
  rw [hL] at hl
  (refine callOk_of_wpc (W := fun _ => false) false hm' Tryz.func18 rfl (by kernel_rfl) (Nat.le_of_ble_eq_true rfl) (go_start ?_); generalize hQ : Post Tryz.prog Tryz.f18 _ _ _ _ _ = Q; simp only [stIn, matL, matA, st00])
  simp (disch := omega) only [go_sem, Nat.reduceEqDiff, Nat.reduceBEq, ↓reduceIte, reduceCtorEq, hL]
  refine k_loop (fun (i : Nat) st => st.fr 0 = lS 700 qs ∧ st.fr 5 = .int .i64 L ∧ st.fr 6 = .int .i64 i ∧ i ≤ L ∧ (qs.take i).all (fun q => !decide (q < 0)) = true) (fun i => L - i) 0 ⟨(by simp [upd_app] <;> omega), (by simp [upd_app] <;> omega), (by simp [upd_app] <;> omega), by omega, rfl⟩ ?_
  rintro i ⟨fr, h, nx⟩ ⟨g0, g5, g6, hi, ha⟩ J hJ
  simp only at g0 g5 g6
  by_cases hin : i < L
  · obtain ⟨q, hq⟩ := get_some (xs := qs) (i := i) (by omega)
    have hnn := num_neg q
    by_cases hneg : q < 0
    · rw [all_bad hq (by simp [hneg])] at hQ
      rw [decide_eq_true hneg] at hnn
      simp (disch := omega) only [go_sem, Nat.reduceEqDiff, Nat.reduceBEq, ↓reduceIte, reduceCtorEq, g0, g5, g6, hq, hnn]
      rw [← hQ]
      exact post_one (.inl rfl) rfl (by simp [upd_app] <;> omega) rfl
    · rw [decide_eq_false hneg] at hnn
      simp (disch := omega) only [go_sem, Nat.reduceEqDiff, Nat.reduceBEq, ↓reduceIte, reduceCtorEq, g0, g5, g6, hq, hnn]
      exact hJ (i + 1) _ ⟨(by simp [upd_app, g0] <;> omega), (by simp [upd_app, g5] <;> omega), (by simp [upd_app] <;> omega), hin, by rw [all_take hq, ha]; simp [hneg]⟩ (by omega)
  · obtain rfl : i = L := by omega
    rw [List.take_of_length_le (by omega)] at ha
    rw [ha] at hQ
    simp (disch := omega) only [go_sem, Nat.reduceEqDiff, Nat.reduceBEq, ↓reduceIte, reduceCtorEq, g0, g5, g6]
    rw [← hQ]
    exact post_one (.inl rfl) rfl (by simp [upd_app] <;> omega) rfl
theorem c_sTotal {m : Nat} {qs : List Rat} (hm : m ≤ 100000) (hl : qs.length ≤ 1000) : CallOk Tryz.prog 22 [lS m qs] (rS (64 + qs.length * (m + 1)) (sumL qs)) [] := by
  obtain ⟨n, hn⟩ : ∃ n, qs.length = n := ⟨_, rfl⟩
  rw [hn] at hl ⊢
  (refine callOk_of_wpc (W := fun _ => false) false hm' Tryz.func22 rfl (by kernel_rfl) (Nat.le_of_ble_eq_true rfl) (go_start ?_); generalize hQ : Post Tryz.prog Tryz.f22 _ _ _ _ _ = Q; simp only [stIn, matL, matA, st00])
  simp (disch := omega) only [go_sem, Nat.reduceEqDiff, Nat.reduceBEq, ↓reduceIte, reduceCtorEq, hn]
  (repeat (with_reducible refine Or.inr ?_))
  refine k_loop (fun (i : Nat) st => st.fr 0 = lS m qs ∧ st.fr 2 = .ptr 0 1 0 0 ∧ st.fr 3 = .ptr 1 1 0 0 ∧ st.fr 7 = .int .i64 n ∧ st.fr 8 = .int .i64 i ∧ st.h 0 = ⟨57, [.agg [.bool false, .nil, .nil]], true, false, true⟩ ∧ st.h 1 = ⟨57, [rS (64 + i * (m + 1)) (sumL (qs.take i))], true, false, true⟩ ∧ 1 < st.nx ∧ (i ≤ n)) (fun (i : Nat) => n - i) (0)
    ⟨(by simp [upd_app, sumL] <;> omega), (by simp [upd_app, sumL] <;> omega), (by simp [upd_app, sumL] <;> omega), (by simp [upd_app, sumL] <;> omega), (by simp [upd_app, sumL] <;> omega), (by simp [upd_app, sumL] <;> omega), (by simp [upd_app, sumL] <;> omega), (by simp <;> omega), by omega⟩ ?_
  rintro i ⟨fr, h, nx⟩ ⟨g0, g2, g3, g7, g8, hm0, hm1, hnx, hi⟩ J hJ
  simp only at g0 g2 g3 g7 g8 hm0 hm1 hnx
  by_cases hin : i < n
  · obtain ⟨q, hq⟩ := get_some (xs := qs) (i := i) (by omega)
    have hb : i * (m + 1) ≤ 1000 * 100001 := Nat.mul_le_mul (by omega) (by omega)
    have e : 64 + (i + 1) * (m + 1) = 64 + i * (m + 1) + m + 1 := by rw [Nat.add_mul]; omega
    have key := hJ (i + 1)
    rw [sumL_take hq, e] at key
    simp (disch := omega) only [go_sem, Nat.reduceEqDiff, Nat.reduceBEq, ↓reduceIte, reduceCtorEq, g0, g2, g3, g7, g8, hm0, hm1, hq, hn]
    (repeat (with_reducible refine Or.inr ?_))
    exact key _ ⟨(by simp [upd_app, g0] <;> omega), (by simp [upd_app, g2] <;> omega), (by simp [upd_app, g3] <;> omega), (by simp [upd_app, g7] <;> omega), (by simp [upd_app] <;> omega), (by simp [upd_app, hm0] <;> omega), (by simp [upd_app] <;> omega), (by simp <;> omega), hin⟩ (by omega)
  · obtain rfl : i = n := by omega
    rw [List.take_of_length_le (by omega)] at hm1
    simp (disch := omega) only [go_sem, Nat.reduceEqDiff, Nat.reduceBEq, ↓reduceIte, reduceCtorEq, g0, g2, g3, g7, g8, hm0, hm1, hn]
    (repeat (with_reducible refine Or.inr ?_))
    rw [← hQ]
    exact post_cell1 (id := 0) (x := rS (64 + i * (m + 1)) (sumL qs)) (.inl rfl) rfl o_sRat (by simp [upd_app, g2] <;> omega) (by simp [upd_app]) (by simp [upd_app]) ld_sRat (by simp [AV.pure, AV.pureL])
attribute [go_sem] w_sPositive
theorem w_sTotal {m : Nat} {qs : List Rat} (hm : m ≤ 100000) (hl : qs.length ≤ 1000) : CW Tryz.prog 22 [lS m qs] (rS (64 + qs.length * (m + 1)) (sumL qs)) :=
 cw (by kernel_rfl) (by simp [AV.pure, AV.pureL]) (by simp [AV.pure, AV.pureL]) (c_sTotal hm hl)
attribute [go_sem] w_sTotal
theorem putL_lt {n : Nat} : ∀ {ys zs : List Nat}, (∀ y ∈ ys, y < n) → putL (ys ++ zs) n = ys ++ putL zs n
 | [], zs, _ => rfl
 | y :: ys, zs, h => by
  simp only [List.cons_append, putL]
  rw [if_pos (h y (by simp)), putL_lt fun z hz => h z (by simp [hz])]
theorem putL_done {n x : Nat} : ∀ {ys : List Nat}, (∃ y ∈ ys, ¬ y < n) → putL (ys ++ [x]) n = putL ys n ++ [x]
  | [], h => by obtain ⟨_, h, _⟩ := h; cases h
  | y :: ys, h => by
    simp only [List.cons_append, putL]
    by_cases c : y < n
    · rw [if_pos c, if_pos c, putL_done (by
        obtain ⟨z, hz, hn⟩ := h
        rcases List.mem_cons.1 hz with rfl | hz
        · exact absurd c hn
        · exact ⟨z, hz, hn⟩)]; rfl
    · rw [if_neg c, if_neg c]
      split <;> simp
theorem c_Has {xs : List Nat} {n : Nat} (hl : xs.length ≤ 1000) : CallOk Tryz.prog 46 [.sl 2 (natA .i64 xs) [] false, .int .i64 n] (.bool (xs.contains n)) [] := by
  obtain ⟨L, hL⟩ : ∃ L, xs.length = L := ⟨_, rfl⟩
  rw [hL] at hl
  (refine callOk_of_wpc (W := fun _ => false) false hm' Tryz.func46 rfl (by kernel_rfl) (Nat.le_of_ble_eq_true rfl) (go_start ?_); generalize hQ : Post Tryz.prog Tryz.f46 _ _ _ _ _ = Q; simp only [stIn, matL, matA, st00])
  simp (disch := omega) only [go_sem, Nat.reduceEqDiff, Nat.reduceBEq, ↓reduceIte, reduceCtorEq, natA_length, hL]
  refine k_loop (fun (i : Nat) st => st.fr 0 = .sl 2 (natA .i64 xs) [] false ∧ st.fr 1 = .int .i64 n ∧ st.fr 5 = .int .i64 i ∧ i ≤ L ∧ (xs.take i).contains n = false) (fun i => L - i) 0 ⟨(by simp [upd_app] <;> omega), (by simp [upd_app] <;> omega), (by simp [upd_app] <;> omega), by omega, by simp⟩ ?_
  rintro i ⟨fr, h, nx⟩ ⟨g0, g1, g5, hi, hno⟩ J hJ
  simp only at g0 g1 g5
  by_cases hin : i < L
  · obtain ⟨x, hx⟩ := get_some (xs := xs) (i := i) (by omega)
    by_cases e : x = n
    · have hc : xs.contains n = true := by
        rw [List.contains_eq_mem, decide_eq_true_eq, ← e]; exact List.mem_of_getElem? hx
      rw [hc] at hQ
      have hb : ((x : Int) == (n : Int)) = true := by simp [e]
      simp (disch := omega) only [go_sem, Nat.reduceEqDiff, Nat.reduceBEq, ↓reduceIte, reduceCtorEq, g0, g1, g5, natA_length, hL, natA_at, hx, hb]
      (repeat (with_reducible refine Or.inr ?_))
      rw [← hQ]
      exact post_one (.inl rfl) rfl (by simp [upd_app] <;> omega) rfl
    · have hb : ((x : Int) == (n : Int)) = false := by simp; omega
      simp (disch := omega) only [go_sem, Nat.reduceEqDiff, Nat.reduceBEq, ↓reduceIte, reduceCtorEq, g0, g1, g5, natA_length, hL, natA_at, hx, hb]
      (repeat (with_reducible refine Or.inr ?_))
      exact hJ (i + 1) _ ⟨(by simp [upd_app, g0] <;> omega), (by simp [upd_app, g1] <;> omega), (by simp [upd_app] <;> omega), hin, by
        rw [List.take_add_one, hx]
        simp only [Option.toList_some, List.contains_eq_mem, List.mem_append, List.mem_singleton, decide_eq_false_iff_not, not_or] at hno ⊢
        exact ⟨hno, fun h => e h.symm⟩⟩ (by omega)
  · obtain rfl : i = L := by omega
    rw [List.take_of_length_le (by omega)] at hno
    rw [hno] at hQ
    simp (disch := omega) only [go_sem, Nat.reduceEqDiff, Nat.reduceBEq, ↓reduceIte, reduceCtorEq, g0, g1, g5, natA_length, hL]
    rw [← hQ]
    exact post_one (.inl rfl) rfl (by simp [upd_app] <;> omega) rfl
theorem c_Put {xs : List Nat} {n : Nat} (hl : xs.length ≤ 1000) : CallOk Tryz.prog 47 [.sl 2 (natA .i64 xs) [] false, .int .i64 n] (.sl 2 (natA .i64 (putL xs n)) [] false) [] := by
  obtain ⟨L, hL⟩ : ∃ L, xs.length = L := ⟨_, rfl⟩
  rw [hL] at hl
  (refine callOk_of_wpc (W := fun _ => false) false hm' Tryz.func47 rfl (by kernel_rfl) (Nat.le_of_ble_eq_true rfl) (go_start ?_); generalize hQ : Post Tryz.prog Tryz.f47 _ _ _ _ _ = Q; simp only [stIn, matL, matA, st00])
  simp (disch := omega) only [go_sem, Nat.reduceEqDiff, Nat.reduceBEq, ↓reduceIte, reduceCtorEq, natA_length, hL]
  refine k_loop (fun (⟨i, d, o⟩ : Nat × Bool × List Nat) st => st.fr 0 = .sl 2 (natA .i64 xs) [] false ∧ st.fr 1 = .int .i64 n ∧ st.fr 5 = .ref 0 o.length 0 o.length ∧ st.fr 6 = .bool d ∧ st.fr 7 = .int .i64 i ∧ (∃ e, st.h 0 = ⟨2, natA .i64 o, e, true, true⟩) ∧ i ≤ L ∧ o.length ≤ i + 1 ∧
      (d = false → o = xs.take i ∧ ∀ y ∈ xs.take i, y < n) ∧ (d = true → o = putL (xs.take i) n ∧ ∃ y ∈ xs.take i, ¬ y < n)) (fun (⟨i, _, _⟩ : Nat × Bool × List Nat) => L - i) (0, false, [])
    ⟨(by simp [upd_app] <;> omega), (by simp [upd_app] <;> omega), (by simp [upd_app] <;> omega), (by simp [upd_app] <;> omega), (by simp [upd_app] <;> omega), ⟨true, by simp [upd_app, natA]⟩, by omega, by simp, fun _ => ⟨by simp, by simp⟩, (fun h => by cases h)⟩ ?_
  rintro ⟨i, d, o⟩ ⟨fr, h, nx⟩ ⟨g0, g1, g5, g6, g7, ⟨e, hm⟩, hi, hol, hf, ht⟩ J hJ
  simp only at g0 g1 g5 g6 g7 hm hf ht
  obtain ⟨m, hm'⟩ : ∃ m, o.length = m := ⟨_, rfl⟩
  have hnl : (natA .i64 o).length = m := by rw [natA_length, hm']
  have reach' : reach = 140737488355328 := rfl
  by_cases hin : i < L
  · obtain ⟨x, hx⟩ := get_some (xs := xs) (i := i) (by omega)
    have htk : xs.take (i + 1) = xs.take i ++ [x] := by rw [List.take_add_one, hx]; rfl
    have keyJ := fun d' o' => hJ (i + 1, d', o')
    clear hJ
    cases d with
    | true =>
      obtain ⟨ho, hex⟩ := ht rfl
      have hsn : natA .i64 o ++ [.int .i64 x] = natA .i64 (o ++ [x]) := natA_snoc
      simp (disch := omega) only [go_sem, Nat.reduceEqDiff, Nat.reduceBEq, ↓reduceIte, reduceCtorEq, g0, g1, g5, g6, g7, hm, natA_length, hL, natA_at, hx, hm', hnl, reach, hsn, List.length_cons, List.length_nil]
      (repeat (with_reducible refine Or.inr ?_))
      exact keyJ true (o ++ [x]) _ ⟨(by simp [upd_app, g0] <;> omega), (by simp [upd_app, g1] <;> omega), by simp [upd_app, hm'], (by simp [upd_app, g6] <;> omega), (by simp [upd_app] <;> omega), ⟨false, by simp [upd_app]⟩, hin, by simp; omega, (fun h => by cases h), fun _ => ⟨by rw [htk, putL_done hex, ho], by
        obtain ⟨y, hy, hyn⟩ := hex
        exact ⟨y, by rw [htk]; exact List.mem_append_left _ hy, hyn⟩⟩⟩ (by simp only; omega)
    | false =>
      obtain ⟨ho, hall⟩ := hf rfl
      have hol2 : o.length ≤ i := by rw [ho, List.length_take]; omega
      by_cases c1 : x < n
      · have hsn : natA .i64 o ++ [.int .i64 x] = natA .i64 (o ++ [x]) := natA_snoc
        have hd : decide ((x : Int) ≥ n) = false := by simp; omega
        simp (disch := omega) only [go_sem, Nat.reduceEqDiff, Nat.reduceBEq, ↓reduceIte, reduceCtorEq, g0, g1, g5, g6, g7, hm, natA_length, hL, natA_at, hx, hm', hnl, reach, hsn, hd, List.length_cons, List.length_nil]
        (repeat (with_reducible refine Or.inr ?_))
        exact keyJ false (o ++ [x]) _ ⟨(by simp [upd_app, g0] <;> omega), (by simp [upd_app, g1] <;> omega), by simp [upd_app, hm'], (by simp [upd_app, g6] <;> omega), (by simp [upd_app] <;> omega), ⟨false, by simp [upd_app]⟩, hin, by simp; omega, fun _ => ⟨by rw [htk, ho], fun y hy => by
          rw [htk] at hy
          rcases List.mem_append.1 hy with hy | hy
          · exact hall y hy
          · obtain rfl := List.mem_singleton.1 hy; exact c1⟩, (fun h => by cases h)⟩ (by simp only; omega)
      · have hd : decide ((x : Int) ≥ n) = true := by simp; omega
        have hput : putL (xs.take (i + 1)) n = o ++ (if x = n then [x] else [n, x]) := by
          rw [htk, putL_lt hall, ho]; simp only [putL]; rw [if_neg c1]
        have hexx : ∃ y ∈ xs.take (i + 1), ¬ y < n := ⟨x, by rw [htk]; simp, c1⟩
        by_cases c2 : x = n
        · rw [if_pos c2] at hput
          have hd2 : decide ((x : Int) > n) = false := by simp; omega
          have hsn : natA .i64 o ++ [.int .i64 x] = natA .i64 (o ++ [x]) := natA_snoc
          simp (disch := omega) only [go_sem, Nat.reduceEqDiff, Nat.reduceBEq, ↓reduceIte, reduceCtorEq, g0, g1, g5, g6, g7, hm, natA_length, hL, natA_at, hx, hm', hnl, reach, hsn, hd, hd2, List.length_cons, List.length_nil]
          (repeat (with_reducible refine Or.inr ?_))
          exact keyJ true (o ++ [x]) _ ⟨(by simp [upd_app, g0] <;> omega), (by simp [upd_app, g1] <;> omega), by simp [upd_app, hm'], (by simp [upd_app] <;> omega), (by simp [upd_app] <;> omega), ⟨false, by simp [upd_app]⟩, hin, by simp; omega, (fun h => by cases h), fun _ => ⟨hput.symm, hexx⟩⟩ (by simp only; omega)
        · rw [if_neg c2] at hput
          have hd2 : decide ((x : Int) > n) = true := by simp; omega
          have hsn : natA .i64 o ++ [.int .i64 n] = natA .i64 (o ++ [n]) := natA_snoc
          have hsn2 : natA .i64 (o ++ [n]) ++ [.int .i64 x] = natA .i64 (o ++ [n, x]) := by rw [natA_snoc]; simp
          have hnl2 : (natA .i64 (o ++ [n])).length = m + 1 := by rw [natA_length]; simp; omega
          simp (disch := omega) only [go_sem, Nat.reduceEqDiff, Nat.reduceBEq, ↓reduceIte, reduceCtorEq, g0, g1, g5, g6, g7, hm, natA_length, hL, natA_at, hx, hm', hnl, reach, hsn, hsn2, hnl2, hd, hd2, List.length_cons, List.length_nil]
          (repeat (with_reducible refine Or.inr ?_))
          exact keyJ true (o ++ [n, x]) _ ⟨(by simp [upd_app, g0] <;> omega), (by simp [upd_app, g1] <;> omega), by simp [upd_app, hm'], (by simp [upd_app] <;> omega), (by simp [upd_app] <;> omega), ⟨false, by simp [upd_app]⟩, hin, by simp; omega, (fun h => by cases h), fun _ => ⟨hput.symm, hexx⟩⟩ (by simp only; omega)
  · obtain rfl : i = L := by omega
    rw [List.take_of_length_le (by omega)] at hf ht
    cases d with
    | true =>
      obtain ⟨ho, _⟩ := ht rfl
      simp (disch := omega) only [go_sem, Nat.reduceEqDiff, Nat.reduceBEq, ↓reduceIte, reduceCtorEq, g0, g1, g5, g6, g7, natA_length, hL]
      rw [← hQ]
      exact post_frozen (id := 0) (n := m) (off := 0) (len := m) (.inl rfl) rfl (by simp [upd_app, hm']) (by simp [upd_app, hm]) (by simp [upd_app, hm, hnl]) (by simp [upd_app, hm]) (by omega) (Nat.zero_le _) (by simp only [upd_app, hm, List.drop_zero]; rw [List.take_of_length_le (by omega), ho]) (natA_pure _ _)
    | false =>
      obtain ⟨ho, hall⟩ := hf rfl
      have hput : putL xs n = o ++ [n] := by
        have := putL_lt (ys := xs) (zs := []) hall
        rw [List.append_nil] at this
        rw [this, ho]; rfl
      have hsn : natA .i64 o ++ [.int .i64 n] = natA .i64 (o ++ [n]) := natA_snoc
      have hnl2 : (natA .i64 (o ++ [n])).length = m + 1 := by rw [natA_length]; simp; omega
      simp (disch := omega) only [go_sem, Nat.reduceEqDiff, Nat.reduceBEq, ↓reduceIte, reduceCtorEq, g0, g1, g5, g6, g7, hm, natA_length, hL, hm', hnl, reach, hsn, List.length_cons, List.length_nil]
      (repeat (with_reducible refine Or.inr ?_))
      rw [← hQ]
      exact post_frozen (id := 0) (n := m + 1) (off := 0) (len := m + 1) (.inl rfl) rfl (by simp [upd_app]) (by simp [upd_app]) (by simp [upd_app, hnl2]) (by simp [upd_app]) (by omega) (Nat.zero_le _) (by simp only [upd_app, ↓reduceIte, List.drop_zero]; rw [List.take_of_length_le (by omega), hput]) (natA_pure _ _)
theorem w_Has {xs : List Nat} {n : Nat} (hl : xs.length ≤ 1000) : CW Tryz.prog 46 [.sl 2 (natA .i64 xs) [] false, .int .i64 n] (.bool (xs.contains n)) := cw (by kernel_rfl) (by simp [AV.pure, AV.pureL]) (by simp [AV.pure, AV.pureL]) (c_Has hl)
attribute [go_sem] w_Has
theorem w_Put {xs : List Nat} {n : Nat} (hl : xs.length ≤ 1000) : CW Tryz.prog 47 [.sl 2 (natA .i64 xs) [] false, .int .i64 n] (.sl 2 (natA .i64 (putL xs n)) [] false) := cw (by kernel_rfl) (by simp [AV.pure, AV.pureL]) (by simp [AV.pure, AV.pureL]) (c_Put hl)
attribute [go_sem] w_Put
theorem x_callT {P : Program} {W : FuncId → Bool} {ops : Array Oper} {os : List Oper} {fr : Nat → AV} {h : Nat → Blk} {nx : Nat} {K : St → Prop} {d : Option Tmp} {t tm : Nat} {p : String} {af : Array Edge} {g : FuncId} {args : Array Operand} {ts : Array TypeId}
    (hf : fr tm = .fn (.func g) [] []) (hW : W g = false) : wpos P W ops (⟨d, .call { callee := .value (.tmp tm), args := args, argTypes := ts }, t, p, af, none⟩ :: os) ⟨fr, h, nx⟩ K =
    callW P W g (args.toList.map (evA fr)) ⟨d, ops, os, fr, h, nx, K⟩ .mk := by
  simp only [wpos, wpo, guardA, opK, callW, ValCall]
  have e : St.ev ⟨fr, h, nx⟩ = evA fr := by funext x; rfl
  refine propext ⟨fun hw => ?_, fun hw => ⟨fun _ => ?_, by simp⟩⟩
  · obtain ⟨x, st', ⟨g', first, cap, h1, h2, h3, h4, h5⟩, hk⟩ := hw.1 trivial
    have h1' : AV.fn (.func g) [] [] = AV.fn (.func g') first cap := hf.symm.trans h1
    injection h1' with e1 e2 e3
    injection e1 with e1
    subst e1; subst e2; subst e3
    rw [e] at h3 h5
    exact ⟨h2, x, st', by simpa using h3, fun _ => h4 rfl, fun _ hp h nx => by simpa using h5 rfl (by simpa using hp) h nx, hk⟩
  · obtain ⟨h2, x, st', h3, h4, h5, hk⟩ := hw
    exact ⟨x, st', ⟨g, [], [], hf, h2, by rw [e]; simpa using h3, fun _ => h4 hW, fun _ hp h nx => by rw [e] at hp ⊢; simpa using h5 hW (by simpa using hp) h nx⟩, hk⟩
mutual
theorem rep_cut2 {P : Program} {E E' : Env} {h : Nat → Blk} {nx : Nat} (hE : E.nx = nx) (hh : ∀ i, i < nx → h i = E'.h i ∨ (h i).lv = false ∧ (h i).xs.length = (E.h i).xs.length) : ∀ (x : AV) (v0 v : Value), rep P E x v0 → rep P E' x v → rep P ⟨E'.w, E'.I, E'.m, h, nx⟩ x v
  | .undef, _, _, _, _ => by simp [rep]
  | .bool b, _, v, _, k => by simpa [rep] using k
  | .int i n, _, v, _, k => by simpa [rep] using k
  | .str s, _, v, _, k => by simpa [rep] using k
  | .nil, _, v, _, k => by simpa [rep] using k
  | .sl t xs sp ex, v0, v, k0, k => by
    simp only [rep] at k0 k ⊢
    obtain ⟨_, _, _, _, _, _, ws, us', m4, m5, _⟩ := k0
    obtain ⟨a, cap, h1, h2, h3, h7, vs, us, h4, h5, h6⟩ := k
    exact ⟨a, cap, h1, h2, h3, h7, vs, us, repL_cut2 hE hh xs ws vs m4 h4, repL_cut2 hE hh sp us' us m5 h5, h6⟩
  | .ref id n off len, v0, v, k0, k => by
    simp only [rep] at k0 k ⊢
    have hlt : id < nx := by rw [← hE]; exact k0.1
    obtain ⟨_, h2, ad, kk, hv, h3⟩ := k
    rcases hh id hlt with e | ⟨e1, e2⟩
    · rw [e]; exact ⟨hlt, h2, ad, kk, hv, h3⟩
    · exact ⟨hlt, by rw [e2]; exact k0.2.1, ad, kk, hv, fun hl => by rw [e1] at hl; cases hl⟩
  | .own .., _, _, _, k => by simp [rep] at k
  | .ptr id n i j, v0, v, k0, k => by
    simp only [rep] at k0 k ⊢
    have hlt : id < nx := by rw [← hE]; exact k0.1
    obtain ⟨_, h2, ad, hv, h3⟩ := k
    rcases hh id hlt with e | ⟨e1, e2⟩
    · rw [e]; exact ⟨hlt, h2, ad, hv, h3⟩
    · exact ⟨hlt, by rw [e2]; exact k0.2.1, ad, hv, fun hl => by rw [e1] at hl; cases hl⟩
  | .cptr t x j, v0, v, k0, k => by
    simp only [rep] at k0 k ⊢
    obtain ⟨_, _, _, _, u0, _, _, _, m4, _⟩ := k0
    obtain ⟨b, off, c, fz, u, h1, h2, h3, h4, h6, h5⟩ := k
    exact ⟨b, off, c, fz, u, h1, h2, h3, rep_cut2 hE hh x u0 u m4 h4, h6, h5⟩
  | .fn f first cap, v0, v, k0, k => by
    simp only [rep] at k0 k ⊢
    obtain ⟨ws, us', _, m2, m3⟩ := k0
    obtain ⟨vs, us, h1, h2, h3⟩ := k
    exact ⟨vs, us, h1, repL_cut2 hE hh first ws vs m2 h2, repL_cut2 hE hh cap us' us m3 h3⟩
  | .agg cs, v0, v, k0, k => by
    simp only [rep] at k0 k ⊢
    obtain ⟨ws, _, m2⟩ := k0
    obtain ⟨vs, h1, h2⟩ := k
    exact ⟨vs, h1, repL_cut2 hE hh cs ws vs m2 h2⟩
  | .tup xs, v0, v, k0, k => by
    simp only [rep] at k0 k ⊢
    obtain ⟨ws, _, m2⟩ := k0
    obtain ⟨vs, h1, h2⟩ := k
    exact ⟨vs, h1, repL_cut2 hE hh xs ws vs m2 h2⟩
theorem repL_cut2 {P : Program} {E E' : Env} {h : Nat → Blk} {nx : Nat} (hE : E.nx = nx) (hh : ∀ i, i < nx → h i = E'.h i ∨ (h i).lv = false ∧ (h i).xs.length = (E.h i).xs.length) : ∀ (xs : List AV) (vs0 vs : List Value), repL P E xs vs0 → repL P E' xs vs → repL P ⟨E'.w, E'.I, E'.m, h, nx⟩ xs vs
  | [], _, vs, _, k => by simpa [repL] using k
  | x :: xs, vs0, vs, k0, k => by
    simp only [repL] at k0 k ⊢
    obtain ⟨v0, us0, _, m2, m3⟩ := k0
    obtain ⟨v, us, h1, h2, h3⟩ := k
    exact ⟨v, us, h1, rep_cut2 hE hh x v0 v m2 h2, repL_cut2 hE hh xs us0 us m3 h3⟩
end
def cutH (h h' : Nat → Blk) (nx : Nat) (eat : List Nat) : Nat → Blk := fun i => if i ∈ eat then { h i with lv := false } else if i < nx then h' i else h i
def PostE (P : Program) (fn : Func) (x : AV) (h' : Nat → Blk) (nx : Nat) (eat : List Nat) (e : Ex) (st : St) : Prop :=
 (match e with | .exit _ => False | _ => True) ∧ resV P st fn.results.toList = some x ∧ (∀ i, i < nx → i ∉ eat → st.h i = h' i) ∧ nx ≤ st.nx
def Stays (P : Program) (x : AV) (h2 : Nat → Blk) (nx : Nat) (eat : List Nat) : Prop :=
 ∀ (E' : Env) (v : Value), (∀ i, i < nx → i ∉ eat → h2 i = E'.h i) → rep P E' x v → rep P ⟨E'.w, E'.I, E'.m, h2, nx⟩ x v
theorem cut_core {P : Program} {E E' : Env} {h h' : Nat → Blk} {nx : Nat} {eat fz : List Nat} (hE : Ok P E) (hE' : Ok P E') (hle : E.Le E') (hgo : Goes P E E') (hh : h = E.h) (hnx : nx = E.nx) (h1 : ∀ i, i < nx → i ∉ eat → E'.h i = h' i)
    (hh' : ∀ i, i < nx → i ∉ eat → h' i = h i ∨ AV.pureL (h' i).xs = true) (hfz : ∀ i ∈ fz, nx ≤ i) :
    E.Le ⟨E'.w, (E'.shut fz).I, E'.m, cutH h h' nx eat, nx⟩ ∧ Ok P ⟨E'.w, (E'.shut fz).I, E'.m, cutH h h' nx eat, nx⟩ ∧ Goes P E ⟨E'.w, (E'.shut fz).I, E'.m, cutH h h' nx eat, nx⟩ ∧
      (∀ i, i < nx → i ∉ eat → cutH h h' nx eat i = E'.h i) ∧ ∀ i, (cutH h h' nx eat i).lv = true → i < nx := by
  obtain ⟨H, hH⟩ : ∃ H, cutH h h' nx eat = H := ⟨_, rfl⟩
  rw [hH]
  have hsame : ∀ i, i < nx → i ∉ eat → H i = E'.h i := fun i hi he => by rw [← hH, cutH, if_neg he, if_pos hi]; exact (h1 i hi he).symm
  have hate : ∀ i, i ∈ eat → (H i).lv = false ∧ (H i).xs = (E.h i).xs ∧ (H i).gr = (E.h i).gr := fun i hi => by rw [← hH, cutH, if_pos hi, hh]; exact ⟨rfl, rfl, rfl⟩
  have hdead : ∀ i, nx ≤ i → (H i).lv = false := fun i hi => by
    by_cases he : i ∈ eat
    · exact (hate i he).1
    · rw [← hH, cutH, if_neg he, if_neg (by omega)]
      cases hl : (h i).lv with
      | false => rfl
      | true => have := (hE.blk i (by rw [← hh]; exact hl)).lt; omega
  have hcut : ∀ i, i < nx → H i = E'.h i ∨ (H i).lv = false ∧ (H i).xs.length = (E.h i).xs.length := fun i hi => by
    by_cases he : i ∈ eat
    · exact .inr ⟨(hate i he).1, by rw [(hate i he).2.1]⟩
    · exact .inl (hsame i hi he)
  have hlt : ∀ i, (H i).lv = true → i < nx := fun i hl => by
    rcases Nat.lt_or_ge i nx with h | h
    · exact h
    · rw [hdead i h] at hl; cases hl
  have hlive : ∀ i, (H i).lv = true → i < nx ∧ i ∉ eat ∧ H i = E'.h i := fun i hl => by
    have h2 : i ∉ eat := fun he => by rw [(hate i he).1] at hl; cases hl
    exact ⟨hlt i hl, h2, hsame i (hlt i hl) h2⟩
  have hnew : ∀ i ∈ fz, (E'.h i).lv = true → E.w.heap.size ≤ (E'.m i).b := fun i hi hl => by
    rcases hgo.locs i hl with ⟨a, _⟩ | ⟨a, _⟩
    · have := (hE.blk i a).lt
      have := hfz i hi
      omega
    · exact a
  refine ⟨⟨by rw [hnx]; exact Nat.le_refl _, fun b hb => ⟨.inl (hle.imm b hb).1, (hle.imm b hb).2⟩, fun id hid => ?_, fun id hid n hn k1 k2 => ?_⟩, ⟨fun id hl => ?_, fun i j hi hj e => ?_, fun b hb => ?_, ?_⟩,
    ⟨hgo.os, hgo.tape, hgo.output, hgo.size, hgo.keep, hgo.part, fun id hl => ?_, fun b hb => ?_, by rw [hnx]; exact Nat.le_refl _, fun id hid => ?_⟩, hsame, hlt⟩
  · by_cases he : id ∈ eat
    · simp only [(hate id he).2.1]; exact Nat.le_refl _
    · simp only [hsame id (by omega) he]; exact hle.len id hid
  · simp only at k1 k2 ⊢
    obtain ⟨a1, a2, a3⟩ := hlive id k1
    rw [a3] at k1 k2 ⊢
    exact hle.prv id hid n hn k1 k2
  · simp only at hl
    obtain ⟨a1, a2, a3⟩ := hlive id hl
    have hl' : (E'.h id).lv = true := by rw [← a3]; exact hl
    have hB := hE'.blk id hl'
    obtain ⟨c, ws, g1, g2, g3, g4⟩ := hB.at_
    refine ⟨a1, by simp only [a3]; exact hB.gr, by simp only [a3]; exact hB.ex, by simp only [a3]; exact hB.le, by simp only [a3]; exact hB.cl, ?_, c, ws, by simp only [a3]; exact g1, ?_, by simp only [a3]; exact g3, by simp only [a3]; exact g4⟩
    · rintro (hd | ⟨i, hi, k1, k2⟩)
      · exact hB.dark hd
      · have := hE'.inj i id k1 hl' k2
        have := hfz i hi
        omega
    simp only [a3]
    rcases hh' id a1 a2 with e | e
    · have e1 : E'.h id = E.h id := by rw [← a3, ← hH, cutH, if_neg a2, if_pos a1, e, hh]
      have hlE : (E.h id).lv = true := by rw [← e1]; exact hl'
      obtain ⟨c0, ws0, _, g02, _, _⟩ := (hE.blk id hlE).at_
      rw [e1] at g2 ⊢
      exact repL_cut2 (E' := E'.shut fz) hnx.symm hcut _ ws0 ws g02 (repL_mono (E := E') (E' := E'.shut fz) ⟨Nat.le_refl _, fun b hb => ⟨.inl hb, rfl⟩, fun _ _ => Nat.le_refl _, fun _ _ _ _ h1 h2 => ⟨h1, h2, rfl, rfl⟩⟩ _ _ g2)
    · have hp : AV.pureL (E'.h id).xs = true := by rw [← a3, ← hH, cutH, if_neg a2, if_pos a1]; exact e
      exact repL_pure (E := E') (E' := ⟨E'.w, (E'.shut fz).I, E'.m, H, nx⟩) (fun b hb => ⟨.inl hb, rfl⟩) _ _ hp g2
  · simp only at hi hj e
    obtain ⟨_, _, a3⟩ := hlive i hi
    obtain ⟨_, _, b3⟩ := hlive j hj
    exact hE'.inj i j (by rw [← a3]; exact hi) (by rw [← b3]; exact hj) e
  · rcases hb with hb | ⟨i, hi, k1, k2⟩
    · exact hE'.imm b hb
    · obtain ⟨c, ws, g1, _⟩ := (hE'.blk i k1).at_
      rw [← k2]; exact lt_of_heap g1
  · exact hE'.tab.step fun b hb => ⟨.inl hb, rfl⟩
  · simp only at hl ⊢
    obtain ⟨_, _, a3⟩ := hlive id hl
    have := hgo.locs id (by rw [← a3]; exact hl)
    simpa only [Env.lim, a3] using this
  · rcases hb with hb | ⟨i, hi, k1, k2⟩
    · exact hgo.dark b hb
    · exact .inr (.inl (by rw [← k2]; exact hnew i hi k1))
  · by_cases he : id ∈ eat
    · exact (hate id he).2.2
    · simp only [hsame id (by omega) he]; exact hgo.grs id hid
theorem rel_in {P : Program} {E : Env} {args : List AV} {h : Nat → Blk} {nx nt : Nat} {vs : List Value} (hE : Ok P E) (hh : h = E.h) (hnx : nx = E.nx) (has : repL P E args vs) :
    Rel P E ⟨fun i => args.getD i .undef, h, nx⟩ { tmps := vs.toArray ++ Array.replicate (nt - vs.toArray.size) undef, defers := [] } := by
  have hargl : args.length = vs.length := (repL_length has).symm
  refine ⟨hE, hh, hnx, fun t => ?_⟩
  by_cases ht : t < args.length
  · have h1 : args[t]? = some (args[t]'(by omega)) := List.getElem?_eq_getElem (by omega)
    obtain ⟨v, hv, hr⟩ := repL_get has t _ h1
    simp only [List.getD_eq_getElem?_getD, h1]
    rw [Array.getD_eq_getD_getElem?, Array.getElem?_append_left (by simp; omega)]
    have : vs.toArray[t]? = some v := by simpa using hv
    rw [this]; exact hr
  · simp only [List.getD_eq_getElem?_getD]
    rw [List.getElem?_eq_none (by omega)]
    simp [rep]
section
variable {P : Program} {W : WP} {f : FuncId} {fn : Func} {c : Code} {args : List AV} {x : AV} {fr : Nat → AV} {h h' : Nat → Blk} {nx : Nat} {eat : List Nat}
theorem inOkE_of_wpcD (hm : P.follows .mixedOrders = true) (hf : P.funcs[f]? = some fn) (hb : fn.body = some c)
  (hok : codeOk W fn.ntmps c = true) (hn : args.length ≤ fn.ntmps) (hx : Stays P x (cutH h h' nx eat) nx eat) (hh' : ∀ i, i < nx → i ∉ eat → h' i = h i ∨ AV.pureL (h' i).xs = true)
  (hw : wpc P W c ⟨fun i => args.getD i .undef, h, nx⟩ (PostE P fn x h' nx eat)) : InOk P ⟨fr, h, nx⟩ f args x ⟨fr, cutH h h' nx eat, nx⟩ := by
 refine ⟨rfl, fun E vs hE hh hnx has => calls_of_wp hf hb ?_⟩
 simp only at hh hnx
 have hsize : (vs.toArray ++ Array.replicate (fn.ntmps - vs.toArray.size) undef).size = fn.ntmps := by have := repL_length has; simp; omega
 refine wp_mono (wpc_sound hm c hok _ _ _ E hw (rel_in hE hh hnx has) hsize rfl) fun e a' w' hq => ?_
 obtain ⟨y, st', E', rfl, ⟨hy, hv, h1, h2⟩, rfl, hR', hn', hd', hle, hgo⟩ := hq
 obtain ⟨u, hres, hru⟩ := resV_sound hR' hv
 obtain ⟨k1, k2, k3, k4, _⟩ := cut_core (eat := eat) (fz := []) (h' := h') hE hR'.ok hle hgo hh hnx (fun i hi he => by rw [← hR'.h]; exact h1 i hi he) hh' (by simp)
 have hru2 : rep P ⟨E'.w, (E'.shut []).I, E'.m, cutH h h' nx eat, nx⟩ x u := by
  have := hx E' u k4 hru
  have e : (E'.shut []).I = E'.I := by funext b; simp [Env.shut]
  rw [e]; exact this
 have hend : bodyPost P fn (fun e w' => ∃ v E', e = .returned v ∧ E'.w = w' ∧ E'.h = cutH h h' nx eat ∧ E'.nx = nx ∧ E.Le E' ∧ Ok P E' ∧ Goes P E E' ∧ rep P E' x v) .ret a' E'.w :=
  ⟨hd', u, hres, u, ⟨E'.w, (E'.shut []).I, E'.m, cutH h h' nx eat, nx⟩, rfl, rfl, rfl, rfl, k1, k2, k3, hru2⟩
 cases y with
 | normal => exact hend
 | ret => exact hend
 | exit i => exact hy.elim
def PostS (P : Program) (fn : Func) (x : AV) (h' : Nat → Blk) (nx : Nat) (eat : List Nat) (e : Ex) (st : St) : Prop :=
 (match e with | .exit _ => False | _ => True) ∧ (∃ v ids, resV P st fn.results.toList = some v ∧ snapA st 8 v = some (x, ids) ∧ ∀ i ∈ ids, nx ≤ i) ∧ (∀ i, i < nx → i ∉ eat → st.h i = h' i)
theorem inOkS_of_wpcD (hm : P.follows .mixedOrders = true) (hf : P.funcs[f]? = some fn) (hb : fn.body = some c)
  (hok : codeOk W fn.ntmps c = true) (hn : args.length ≤ fn.ntmps) (hh' : ∀ i, i < nx → i ∉ eat → h' i = h i ∨ AV.pureL (h' i).xs = true)
  (hw : wpc P W c ⟨fun i => args.getD i .undef, h, nx⟩ (PostS P fn x h' nx eat)) : InOk P ⟨fr, h, nx⟩ f args x ⟨fr, cutH h h' nx eat, nx⟩ := by
 refine ⟨rfl, fun E vs hE hh hnx has => calls_of_wp hf hb ?_⟩
 simp only at hh hnx
 have hsize : (vs.toArray ++ Array.replicate (fn.ntmps - vs.toArray.size) undef).size = fn.ntmps := by have := repL_length has; simp; omega
 refine wp_mono (wpc_sound hm c hok _ _ _ E hw (rel_in hE hh hnx has) hsize rfl) fun e a' w' hq => ?_
 obtain ⟨y, st', E', rfl, ⟨hy, ⟨v, ids, hv, hsn, hids⟩, h1⟩, rfl, hR', hn', hd', hle, hgo⟩ := hq
 obtain ⟨u, hres, hru⟩ := resV_sound hR' hv
 obtain ⟨s1, s2, s3⟩ := snapA_sound hR'.ok hR'.h 8 v x ids u hsn hru
 obtain ⟨k1, k2, k3, k4, _⟩ := cut_core (eat := eat) (fz := ids) (h' := h') hE hR'.ok hle hgo hh hnx (fun i hi he => by rw [← hR'.h]; exact h1 i hi he) hh' hids
 have hru2 : rep P ⟨E'.w, (E'.shut ids).I, E'.m, cutH h h' nx eat, nx⟩ x u :=
  rep_pure (E := E'.shut ids) (E' := ⟨E'.w, (E'.shut ids).I, E'.m, cutH h h' nx eat, nx⟩) (fun b hb => ⟨hb, rfl⟩) x u s1 s2
 have hend : bodyPost P fn (fun e w' => ∃ v E', e = .returned v ∧ E'.w = w' ∧ E'.h = cutH h h' nx eat ∧ E'.nx = nx ∧ E.Le E' ∧ Ok P E' ∧ Goes P E E' ∧ rep P E' x v) .ret a' E'.w :=
  ⟨hd', u, hres, u, ⟨E'.w, (E'.shut ids).I, E'.m, cutH h h' nx eat, nx⟩, rfl, rfl, rfl, rfl, k1, k2, k3, hru2⟩
 cases y with
 | normal => exact hend
 | ret => exact hend
 | exit i => exact hy.elim
end
theorem cutH_self {h : Nat → Blk} {nx : Nat} : cutH h h nx [] = h := by funext i; simp [cutH]
theorem snapL_append' {f : AV → Option (AV × List Nat)} : ∀ {xs ys : List AV} {a b : List AV} {i j : List Nat}, snapL f xs = some (a, i) → snapL f ys = some (b, j) → snapL f (xs ++ ys) = some (a ++ b, i ++ j)
 | [], ys, a, b, i, j, h, k => by simp only [snapL, Option.some.injEq, Prod.mk.injEq] at h; obtain ⟨rfl, rfl⟩ := h; simpa using k
 | x :: xs, ys, a, b, i, j, h, k => by
  obtain ⟨y, i1, ys1, is1, h1, h2, h3⟩ := snapL_cons h
  simp only [Prod.mk.injEq] at h3
  obtain ⟨rfl, rfl⟩ := h3
  simp [snapL, h1, snapL_append' h2 k]

section
variable {P : Program} {W : WP} {f : FuncId} {fn : Func} {c : Code} {args : List AV} {x : AV} {fr : Nat → AV} {h : Nat → Blk} {nx : Nat}
theorem inOkS0 (hm : P.follows .mixedOrders = true) (hf : P.funcs[f]? = some fn) (hb : fn.body = some c) (hok : codeOk W fn.ntmps c = true) (hn : args.length ≤ fn.ntmps)
  (hw : wpc P W c ⟨fun i => args.getD i .undef, h, nx⟩ (PostS P fn x h nx [])) : InOk P ⟨fr, h, nx⟩ f args x ⟨fr, h, nx⟩ := by
 have := inOkS_of_wpcD (fr := fr) (h' := h) (eat := []) hm hf hb hok hn (fun _ _ _ => .inl rfl) hw
 rwa [cutH_self] at this
end
section
variable {P : Program} {fn : Func} {h' : Nat → Blk} {nx : Nat} {eat : List Nat} {st : St} {e : Ex}
theorem postS_one {t : Tmp} {r : AV} (he : e = .ret ∨ e = .normal) (hr : fn.results.toList = [.tmp t]) (hv : st.fr t = r) (hp : r.pure = true) (hh : ∀ i, i < nx → i ∉ eat → st.h i = h' i) : PostS P fn r h' nx eat e st :=
 ⟨by rcases he with rfl | rfl <;> trivial, ⟨r, [], by rw [hr]; simp [resV, resL, resA, hv], snapA_pure hp, by simp⟩, hh⟩
theorem postS_cell1 {t : Tmp} {T id : Nat} {x r : AV} (he : e = .ret ∨ e = .normal) (hr : fn.results.toList = [.cell t T]) (hok : okT P T = true) (hv : st.fr t = .ptr id 1 0 0) (hlv : (st.h id).lv = true) (hx : (st.h id).xs = [x])
  (hl : ldA P T x 0 = some r) (hp : r.pure = true) (hh : ∀ i, i < nx → i ∉ eat → st.h i = h' i) : PostS P fn r h' nx eat e st :=
 ⟨by rcases he with rfl | rfl <;> trivial, ⟨r, [], by rw [hr]; simp [resV, resL, resA, hv, hok, loadA, hlv, hx, hl], snapA_pure hp, by simp⟩, hh⟩
theorem postS_frozen {t : Tmp} {id n off len T : Nat} {r : List AV} (he : e = .ret ∨ e = .normal) (hr : fn.results.toList = [.tmp t]) (hv : st.fr t = .ref id n off len)
  (hlv : (st.h id).lv = true) (hn : (st.h id).xs.length = n) (ht : (st.h id).t = T) (hl : off + len ≤ n) (hid : nx ≤ id) (hxs : ((st.h id).xs.drop off).take len = r) (hp : AV.pureL r = true) (hh : ∀ i, i < nx → i ∉ eat → st.h i = h' i) :
  PostS P fn (.sl T r [] false) h' nx eat e st :=
 ⟨by rcases he with rfl | rfl <;> trivial, ⟨.ref id n off len, [id], by rw [hr]; simp [resV, resL, resA, hv], snap_frozen hlv hn ht hl hxs hp, by simpa using hid⟩, hh⟩
end
section
variable {P : Program} {W : WP} {f : FuncId} {fn : Func} {c : Code} {args : List AV} {fr : Nat → AV} {h h' : Nat → Blk} {nx : Nat} {eat : List Nat} {st : St} {e : Ex}
end
def rwS (rs : List (List Rat)) : List AV := rs.map fun r => .sl 57 (ratM 700 r) [] false
def rwI (rs : List (List Rat)) : List AV := rs.map fun r => .sl 70 (ratL 700 r) [] false
theorem rwS_len {rs : List (List Rat)} : (rwS rs).length = rs.length := by simp [rwS]
theorem rwI_len {rs : List (List Rat)} : (rwI rs).length = rs.length := by simp [rwI]
theorem rwS_at {rs : List (List Rat)} {i : Nat} {r : List Rat} (h : rs[i]? = some r) : (rwS rs)[i]? = some (.sl 57 (ratM 700 r) [] false) := by simp [rwS, h]
theorem rwI_at {rs : List (List Rat)} {i : Nat} {r : List Rat} (h : rs[i]? = some r) : (rwI rs)[i]? = some (.sl 70 (ratL 700 r) [] false) := by simp [rwI, h]
theorem rwS_snoc {rs : List (List Rat)} {r : List Rat} : rwS rs ++ [.sl 57 (ratM 700 r) [] false] = rwS (rs ++ [r]) := by simp [rwS]
theorem rwI_snoc {rs : List (List Rat)} {r : List Rat} : rwI rs ++ [.sl 70 (ratL 700 r) [] false] = rwI (rs ++ [r]) := by simp [rwI]
theorem rwS_pure {rs : List (List Rat)} : AV.pureL (rwS rs) = true := by
 induction rs with
 | nil => rfl
 | cons r rs ih => simpa [rwS, AV.pureL, AV.pure] using ih
theorem rwI_pure {rs : List (List Rat)} : AV.pureL (rwI rs) = true := by
 induction rs with
 | nil => rfl
 | cons r rs ih => simpa [rwI, AV.pureL, AV.pure] using ih
def lvM (n : Nat) : Nat := 64 + (64 + n * (700 + 1)) + 1
theorem i_l07Leave {fr : Nat → AV} {h : Nat → Blk} {nx id o n i : Nat} {av sv : AV} {rs : List (List Rat)} {r : List Rat} {e : Bool} (hb : h id = ⟨37, [.agg [av, sv, .ref o n 0 n]], true, false, true⟩) (hid : id < nx)
  (ho : h o = ⟨34, rwS rs, e, true, true⟩) (hon : o < nx) (hrs : rs.length = n) (hr : rs[i]? = some r) (hrn : r.length = n) (hn : n ≤ 1000) :
  InOk Tryz.prog ⟨fr, h, nx⟩ 45 [.ptr id 1 0 0, .int .i64 i] (rS (lvM n) (1 - sumL r)) ⟨fr, h, nx⟩ := by
 refine inOkS0 (W := ⟨fun _ => false, fun _ => none⟩) hm' Tryz.func45 rfl (by kernel_rfl) (Nat.le_of_ble_eq_true rfl) (go_start ?_)
 generalize hQ : PostS Tryz.prog Tryz.f45 _ _ _ _ = Q
 have hi : i < n := by rw [← hrs]; exact (List.getElem?_eq_some_iff.1 hr).1
 have ati := rwS_at hr
 have hol : (rwS rs).length = n := by rw [rwS_len, hrs]
 have n1 : (id = nx) = False := by simp; omega
 have n2 : (o = nx) = False := by simp; omega
 have hT := w_sTotal (m := 700) (qs := r) (by omega) (by omega)
 rw [hrn] at hT
 simp (disch := omega) only [go_sem, Nat.reduceEqDiff, Nat.reduceBEq, ↓reduceIte, reduceCtorEq, hb, ho, ati, hol, n1, n2, hT]
 (repeat (with_reducible refine Or.inr ?_))
 rw [← hQ]
 exact postS_cell1 (id := nx) (x := rS (lvM n) (1 - sumL r)) (.inl rfl) rfl o_sRat (by simp [upd_app] <;> omega) (by simp [upd_app]) (by simp [upd_app, lvM]) ld_sRat (by simp [AV.pure, AV.pureL]) (fun k hk _ => by simp (disch := omega) only [upd_app, if_neg])
theorem i_Has0 {fr : Nat → AV} {h : Nat → Blk} {nx id n : Nat} {e g : Bool} (hb : h id = ⟨2, [], e, g, true⟩) : InOk Tryz.prog ⟨fr, h, nx⟩ 46 [.ref id 0 0 0, .int .i64 n] (.bool false) ⟨fr, h, nx⟩ := by
 refine inOkS0 (W := ⟨fun _ => false, fun _ => none⟩) hm' Tryz.func46 rfl (by kernel_rfl) (Nat.le_of_ble_eq_true rfl) (go_start ?_)
 generalize hQ : PostS Tryz.prog Tryz.f46 _ _ _ _ = Q
 simp (disch := omega) only [go_sem, Nat.reduceEqDiff, Nat.reduceBEq, ↓reduceIte, reduceCtorEq, hb, List.length_nil]
 refine k_loop (fun (_ : Nat) st => st.fr 0 = .ref id 0 0 0 ∧ st.fr 5 = .int .i64 0 ∧ st.h = h) (fun i => i) 0 ⟨(by simp [upd_app] <;> omega), (by simp [upd_app] <;> omega), rfl⟩ ?_
 rintro i ⟨fr, h1, nx⟩ ⟨g0, g5, eh⟩ J hJ
 simp only at g0 g5 eh
 subst eh
 simp (disch := omega) only [go_sem, Nat.reduceEqDiff, Nat.reduceBEq, ↓reduceIte, reduceCtorEq, g0, g5, hb, List.length_nil]
 rw [← hQ]
 exact postS_one (.inl rfl) rfl (by simp [upd_app] <;> omega) rfl (fun _ _ _ => rfl)
theorem i_Put0 {fr : Nat → AV} {h : Nat → Blk} {nx id n : Nat} {e g : Bool} (hb : h id = ⟨2, [], e, g, true⟩) (hid : id < nx) : InOk Tryz.prog ⟨fr, h, nx⟩ 47 [.ref id 0 0 0, .int .i64 n] (.sl 2 (natA .i64 [n]) [] false) ⟨fr, h, nx⟩ := by
 refine inOkS0 (W := ⟨fun _ => false, fun _ => none⟩) hm' Tryz.func47 rfl (by kernel_rfl) (Nat.le_of_ble_eq_true rfl) (go_start ?_)
 generalize hQ : PostS Tryz.prog Tryz.f47 _ _ _ _ = Q
 have n1 : (id = nx) = False := by simp; omega
 simp (disch := omega) only [go_sem, Nat.reduceEqDiff, Nat.reduceBEq, ↓reduceIte, reduceCtorEq, hb, List.length_nil]
 refine k_loop (fun (_ : Nat) st => st.fr 0 = .ref id 0 0 0 ∧ st.fr 1 = .int .i64 n ∧ st.fr 5 = .ref nx 0 0 0 ∧ st.fr 6 = .bool false ∧ st.fr 7 = .int .i64 0 ∧ st.h = upd h nx ⟨2, [], true, true, true⟩ ∧ st.nx = nx + 1) (fun i => i) 0 ⟨(by simp [upd_app] <;> omega), (by simp [upd_app] <;> omega), (by simp [upd_app] <;> omega), (by simp [upd_app] <;> omega), (by simp [upd_app] <;> omega), rfl, rfl⟩ ?_
 rintro i ⟨fr, h1, nx1⟩ ⟨g0, g1, g5, g6, g7, eh, enx⟩ J hJ
 simp only at g0 g1 g5 g6 g7 eh enx
 subst eh enx
 simp (disch := omega) only [go_sem, Nat.reduceEqDiff, Nat.reduceBEq, ↓reduceIte, reduceCtorEq, g0, g1, g5, g6, g7, hb, n1, reach, List.length_nil, List.length_cons, List.nil_append]
 rw [← hQ]
 exact postS_frozen (id := nx) (n := 1) (off := 0) (len := 1) (.inl rfl) rfl (by simp [upd_app] <;> omega) (by simp [upd_app]) (by simp [upd_app]) (by simp [upd_app]) (by omega) (by omega) (by simp [upd_app, natA]) (natA_pure _ _) (fun i hi _ => by simp (disch := omega) only [upd_app, if_neg])
def lvL (rs : List (List Rat)) (i : Nat) : Bool := !decide (1 - sumL (rs.getD i []) = 0)
def nzL (rs : List (List Rat)) (i j : Nat) : Bool := !decide ((rs.getD i []).getD j 0 = 0)
def EndV (v : AV) (h : Nat → Blk) (k n : Nat) (S : Nat → Bool) : Prop := v = .sl 2 (natA .i64 (setL S n)) [] false ∨ (v = .ref k 0 0 0 ∧ setL S n = [])
set_option maxHeartbeats 4000000 in
theorem i_l07Ends {fr : Nat → AV} {h : Nat → Blk} {nx id o n : Nat} {av : AV} {srv : List Rat} {rs : List (List Rat)} {e : Bool} (hb : h id = ⟨37, [.agg [av, lS 700 srv, .ref o n 0 n]], true, false, true⟩) (hid : id < nx)
    (ho : h o = ⟨34, rwS rs, e, true, true⟩) (hon : o < nx) (hrs : rs.length = n) (hs : srv.length = n) (hrn : ∀ (i : Nat) (r : List Rat), rs[i]? = some r → r.length = n) (hn : n ≤ 6) :
    InOk Tryz.prog ⟨fr, h, nx⟩ 23 [.ptr id 1 0 0] (.bool (endsB (lvL rs) (nzL rs) n)) ⟨fr, h, nx⟩ := by
  refine inOkS0 (W := ⟨fun _ => false, fun _ => none⟩) hm' Tryz.func23 rfl (by kernel_rfl) (Nat.le_of_ble_eq_true rfl) (go_start ?_)
  generalize hQ : PostS Tryz.prog Tryz.f23 _ _ _ _ = Q
  have hol : (rwS rs).length = n := by rw [rwS_len, hrs]
  have n1 : (id = nx) = False := by simp; omega
  have n2 : (o = nx) = False := by simp; omega
  obtain ⟨H, hH⟩ : ∃ H, upd h nx ⟨2, [], true, true, true⟩ = H := ⟨_, rfl⟩
  have hbH : H id = ⟨37, [.agg [av, lS 700 srv, .ref o n 0 n]], true, false, true⟩ := by rw [← hH, upd_app, if_neg (by omega)]; exact hb
  have hoH : H o = ⟨34, rwS rs, e, true, true⟩ := by rw [← hH, upd_app, if_neg (by omega)]; exact ho
  have hkH : H nx = ⟨2, [], true, true, true⟩ := by rw [← hH, upd_app, if_pos rfl]
  have hoi : ∀ i, i < nx → H i = h i := fun i hi => by rw [← hH, upd_app, if_neg (by omega)]
  simp (disch := omega) only [go_sem, Nat.reduceEqDiff, Nat.reduceBEq, ↓reduceIte, reduceCtorEq, hb, n1, hs, hH, hbH]
  refine k_loop (fun (t : Nat) st => st.fr 0 = .ptr id 1 0 0 ∧ EndV (st.fr 3) st.h nx n (eAll (lvL rs) (nzL rs) n t) ∧ st.fr 12 = .int .i64 n ∧ st.fr 13 = .int .i64 t ∧ st.h = H ∧ st.nx = nx + 1 ∧ t ≤ n) (fun t => n - t) 0
    ⟨(by simp [upd_app] <;> omega), .inr ⟨(by simp [upd_app] <;> omega), by simp [setL, eAll]⟩, (by simp [upd_app] <;> omega), (by simp [upd_app] <;> omega), rfl, rfl, by omega⟩ ?_
  rintro t ⟨fr1, h1, nx1⟩ ⟨g0, g3, g12, g13, eh, enx, ht⟩ J hJ
  simp only at g0 g3 g12 g13 eh enx
  subst eh enx
  by_cases hin : t < n
  · have keyJ := hJ (t + 1)
    clear hJ
    have hA : eAll (lvL rs) (nzL rs) n (t + 1) = eRow (lvL rs) (nzL rs) n (eAll (lvL rs) (nzL rs) n t) n := rfl
    rw [hA] at keyJ
    generalize eAll (lvL rs) (nzL rs) n t = S0 at *
    simp (disch := omega) only [go_sem, Nat.reduceEqDiff, Nat.reduceBEq, ↓reduceIte, reduceCtorEq, g0, g12, g13, hbH, hs]
    refine k_loop (fun (i : Nat) st => st.fr 0 = .ptr id 1 0 0 ∧ EndV (st.fr 3) st.h nx n (eRow (lvL rs) (nzL rs) n S0 i) ∧ st.fr 12 = .int .i64 n ∧ st.fr 13 = .int .i64 t ∧ st.fr 19 = .int .i64 n ∧ st.fr 20 = .int .i64 i ∧ st.h = h1 ∧ st.nx = nx + 1 ∧ i ≤ n) (fun i => n - i) 0
      ⟨(by simp [upd_app, g0] <;> omega), by simpa [upd_app, eRow] using g3, (by simp [upd_app, g12] <;> omega), (by simp [upd_app, g13] <;> omega), (by simp [upd_app] <;> omega), (by simp [upd_app] <;> omega), rfl, rfl, by omega⟩ ?_
    clear g3
    rintro i ⟨fr2, h2, nx2⟩ ⟨s0, s3, s12, s13, s19, s20, eh, enx, hi⟩ J2 hJ2
    simp only at s0 s3 s12 s13 s19 s20 eh enx
    subst eh enx
    by_cases hin2 : i < n
    · have keyJ2 := hJ2 (i + 1)
      clear hJ2
      have hR : eRow (lvL rs) (nzL rs) n S0 (i + 1) = eStep (lvL rs) (nzL rs) n (eRow (lvL rs) (nzL rs) n S0 i) i := rfl
      rw [hR] at keyJ2
      generalize eRow (lvL rs) (nzL rs) n S0 i = S at *
      obtain ⟨r, hr⟩ := get_some (xs := rs) (i := i) (by omega)
      have hgr : rs.getD i [] = r := by rw [List.getD_eq_getElem?_getD, hr]; rfl
      have hrl := hrn i r hr
      have hlvi : lvL rs i = !decide (1 - sumL r = 0) := by rw [lvL, hgr]
      simp (disch := omega) only [go_sem, Nat.reduceEqDiff, Nat.reduceBEq, ↓reduceIte, reduceCtorEq, s0, s12, s13, s19, s20]
      refine callW_I (i_l07Leave (i := i) (r := r) hbH (by omega) hoH (by omega) hrs hr hrl (by omega)) (by kernel_rfl) (.inr ⟨rfl, rfl⟩) ?_
      have hlM : lvM n ≤ 100000 := by unfold lvM; omega
      simp (disch := omega) only [go_sem, Nat.reduceEqDiff, Nat.reduceBEq, ↓reduceIte, reduceCtorEq, s0, s12, s13, s19, s20, hbH, hs]
      (repeat (with_reducible refine Or.inr ?_))
      rw [← hlvi]
      refine k_loop (fun (j : Nat) st => st.fr 0 = .ptr id 1 0 0 ∧ st.fr 3 = fr2 3 ∧ st.fr 12 = .int .i64 n ∧ st.fr 13 = .int .i64 t ∧ st.fr 19 = .int .i64 n ∧ st.fr 20 = .int .i64 i ∧ st.fr 4 = .int .i64 i ∧ st.fr 5 = .bool (lvL rs i || eAny (nzL rs) S i j) ∧ st.fr 32 = .int .i64 n ∧ st.fr 33 = .int .i64 j ∧ st.h = h2 ∧ st.nx = nx + 1 ∧ j ≤ n) (fun j => n - j) 0
        ⟨(by simp [upd_app, s0] <;> omega), (by simp [upd_app] <;> omega), (by simp [upd_app, s12] <;> omega), (by simp [upd_app, s13] <;> omega), (by simp [upd_app, s19] <;> omega), (by simp [upd_app, s20] <;> omega), (by simp [upd_app] <;> omega), by simp [upd_app, eAny_zero], (by simp [upd_app] <;> omega), (by simp [upd_app] <;> omega), rfl, rfl, by omega⟩ ?_
      rintro j ⟨fr3, h3, nx3⟩ ⟨r0, r3, r12, r13, r19, r20, r4, r5, r32, r33, eh, enx, hj⟩ J3 hJ3
      simp only at r0 r3 r12 r13 r19 r20 r4 r5 r32 r33 eh enx
      subst eh enx
      by_cases hin3 : j < n
      · have key3 := hJ3 (j + 1)
        clear hJ3
        obtain ⟨q, hq⟩ := get_some (xs := r) (i := j) (by omega)
        have ati := rwS_at hr
        have hrM : (ratM 700 r).length = n := by rw [ratM_length, hrl]
        have hnz : nzL rs i j = !decide (q = 0) := by rw [nzL, hgr, getD_of hq]
        have hZ := w_sZero (m := 700) (a := q) (by omega)
        have hb1' := @eAny_succ (nzL rs) S i j
        rw [hnz] at hb1'
        rw [hb1'] at key3
        generalize eAny (nzL rs) S i j = b at *
        generalize lvL rs i = l at *
        cases hlb : (l || b) with
        | true =>
          have hb1 : (l || (b || (!decide (q = 0) && S j))) = true := by cases l <;> cases b <;> simp_all
          rw [hlb] at r5
          simp (disch := omega) only [go_sem, Nat.reduceEqDiff, Nat.reduceBEq, ↓reduceIte, reduceCtorEq, r0, r12, r13, r19, r20, r4, r5, r32, r33, hbH, hoH, hol, ati, hrM, hq, reach]
          (repeat (with_reducible refine Or.inr ?_))
          exact key3 _ ⟨(by simp [upd_app, r0] <;> omega), by simp [upd_app, r3, s3], (by simp [upd_app, r12] <;> omega), (by simp [upd_app, r13] <;> omega), (by simp [upd_app, r19] <;> omega), (by simp [upd_app, r20] <;> omega), (by simp [upd_app, r4] <;> omega), by rw [hb1]; simp [upd_app], (by simp [upd_app, r32] <;> omega), (by simp [upd_app] <;> omega), rfl, rfl, hin3⟩ (by omega)
        | false =>
          obtain ⟨rfl, rfl⟩ : l = false ∧ b = false := by cases l <;> cases b <;> simp_all
          rw [hlb] at r5
          rcases s3 with s3 | ⟨s3, hse⟩
          · have hH1 := w_Has (xs := setL S n) (n := j) (by have := setL_len (S := S) (n := n); omega)
            rw [setL_has hin3] at hH1
            rw [s3] at r3
            cases hSj : S j with
            | false =>
              rw [hSj] at hH1
              have hb1 : (false || (false || (!decide (q = 0) && S j))) = false := by simp [hSj]
              simp (disch := omega) only [go_sem, Nat.reduceEqDiff, Nat.reduceBEq, ↓reduceIte, reduceCtorEq, r0, r12, r13, r19, r20, r4, r5, r32, r33, hbH, hoH, hol, ati, hrM, hq, reach, r3, hH1]
              (repeat (with_reducible refine Or.inr ?_))
              exact key3 _ ⟨(by simp [upd_app, r0] <;> omega), by simp [upd_app, r3, s3], (by simp [upd_app, r12] <;> omega), (by simp [upd_app, r13] <;> omega), (by simp [upd_app, r19] <;> omega), (by simp [upd_app, r20] <;> omega), (by simp [upd_app, r4] <;> omega), by rw [hb1]; simp [upd_app], (by simp [upd_app, r32] <;> omega), (by simp [upd_app] <;> omega), rfl, rfl, hin3⟩ (by omega)
            | true =>
              rw [hSj] at hH1
              by_cases hq0 : q = 0
              · rw [decide_eq_true hq0] at hZ
                have hb1 : (false || (false || (!decide (q = 0) && S j))) = false := by simp [hq0]
                simp (disch := omega) only [go_sem, Nat.reduceEqDiff, Nat.reduceBEq, ↓reduceIte, reduceCtorEq, r0, r12, r13, r19, r20, r4, r5, r32, r33, hbH, hoH, hol, ati, hrM, hq, reach, r3, hH1, hZ]
                (repeat (with_reducible refine Or.inr ?_))
                exact key3 _ ⟨(by simp [upd_app, r0] <;> omega), by simp [upd_app, r3, s3], (by simp [upd_app, r12] <;> omega), (by simp [upd_app, r13] <;> omega), (by simp [upd_app, r19] <;> omega), (by simp [upd_app, r20] <;> omega), (by simp [upd_app, r4] <;> omega), by rw [hb1]; simp [upd_app], (by simp [upd_app, r32] <;> omega), (by simp [upd_app] <;> omega), rfl, rfl, hin3⟩ (by omega)
              · rw [decide_eq_false hq0] at hZ
                have hb1 : (false || (false || (!decide (q = 0) && S j))) = true := by simp [hq0, hSj]
                simp (disch := omega) only [go_sem, Nat.reduceEqDiff, Nat.reduceBEq, ↓reduceIte, reduceCtorEq, r0, r12, r13, r19, r20, r4, r5, r32, r33, hbH, hoH, hol, ati, hrM, hq, reach, r3, hH1, hZ]
                (repeat (with_reducible refine Or.inr ?_))
                exact key3 _ ⟨(by simp [upd_app, r0] <;> omega), by simp [upd_app, r3, s3], (by simp [upd_app, r12] <;> omega), (by simp [upd_app, r13] <;> omega), (by simp [upd_app, r19] <;> omega), (by simp [upd_app, r20] <;> omega), (by simp [upd_app, r4] <;> omega), by rw [hb1]; simp [upd_app], (by simp [upd_app, r32] <;> omega), (by simp [upd_app] <;> omega), rfl, rfl, hin3⟩ (by omega)
          · have hSj : S j = false := by have := setL_has (S := S) hin3; rw [hse] at this; exact this.symm
            rw [s3] at r3
            have hb1 : (false || (false || (!decide (q = 0) && S j))) = false := by simp [hSj]
            simp (disch := omega) only [go_sem, Nat.reduceEqDiff, Nat.reduceBEq, ↓reduceIte, reduceCtorEq, r0, r12, r13, r19, r20, r4, r5, r32, r33, hbH, hoH, hol, ati, hrM, hq, reach, r3]
            refine callW_I (i_Has0 (e := true) (g := true) hkH) (by kernel_rfl) (.inr ⟨rfl, rfl⟩) ?_
            simp (disch := omega) only [go_sem, Nat.reduceEqDiff, Nat.reduceBEq, ↓reduceIte, reduceCtorEq, r0, r12, r13, r19, r20, r4, r5, r32, r33, hbH, hoH, hol, ati, hrM, hq, reach, r3]
            exact key3 _ ⟨(by simp [upd_app, r0] <;> omega), by simp [upd_app, r3, s3], (by simp [upd_app, r12] <;> omega), (by simp [upd_app, r13] <;> omega), (by simp [upd_app, r19] <;> omega), (by simp [upd_app, r20] <;> omega), (by simp [upd_app, r4] <;> omega), by rw [hb1]; simp [upd_app], (by simp [upd_app, r32] <;> omega), (by simp [upd_app] <;> omega), rfl, rfl, hin3⟩ (by omega)
      · obtain rfl : j = n := by omega
        have hT : ∀ k, k ≠ i → eStep (lvL rs) (nzL rs) j S i k = S k := fun k hk => by unfold eStep; rw [if_neg hk]
        have hTi : eStep (lvL rs) (nzL rs) j S i i = (S i || lvL rs i || eAny (nzL rs) S i j) := by unfold eStep; rw [if_pos rfl]
        generalize eStep (lvL rs) (nzL rs) j S i = T at *
        generalize eAny (nzL rs) S i j = b at *
        generalize lvL rs i = l at *
        clear hJ3
        cases hlb : (l || b) with
        | true =>
          have hTt : T i = true := by rw [hTi]; cases S i <;> cases l <;> cases b <;> simp_all
          have hput := setL_put (S := S) (T := T) hin2 hTt hT
          rw [hlb] at r5
          rcases s3 with s3 | ⟨s3, hse⟩
          · have hP := w_Put (xs := setL S j) (n := i) (by have := setL_len (S := S) (n := j); omega)
            rw [hput] at hP
            rw [s3] at r3
            simp (disch := omega) only [go_sem, Nat.reduceEqDiff, Nat.reduceBEq, ↓reduceIte, reduceCtorEq, r0, r3, r12, r13, r19, r20, r4, r5, r32, r33, hP]
            (repeat (with_reducible refine Or.inr ?_))
            exact keyJ2 _ ⟨(by simp [upd_app, r0] <;> omega), .inl (by simp [upd_app] <;> omega), (by simp [upd_app, r12] <;> omega), (by simp [upd_app, r13] <;> omega), (by simp [upd_app, r19] <;> omega), (by simp [upd_app] <;> omega), rfl, rfl, hin2⟩ (by omega)
          · rw [hse] at hput
            have hp1 : putL [] i = [i] := rfl
            rw [hp1] at hput
            rw [s3] at r3
            simp (disch := omega) only [go_sem, Nat.reduceEqDiff, Nat.reduceBEq, ↓reduceIte, reduceCtorEq, r0, r3, r12, r13, r19, r20, r4, r5, r32, r33]
            refine callW_I (i_Put0 (e := true) (g := true) hkH (by omega)) (by kernel_rfl) (.inr ⟨rfl, rfl⟩) ?_
            simp (disch := omega) only [go_sem, Nat.reduceEqDiff, Nat.reduceBEq, ↓reduceIte, reduceCtorEq, r0, r3, r12, r13, r19, r20, r4, r5, r32, r33]
            exact keyJ2 _ ⟨(by simp [upd_app, r0] <;> omega), .inl (by simp [upd_app, hput]), (by simp [upd_app, r12] <;> omega), (by simp [upd_app, r13] <;> omega), (by simp [upd_app, r19] <;> omega), (by simp [upd_app] <;> omega), rfl, rfl, hin2⟩ (by omega)
        | false =>
          have hTe : T = S := by
            funext k
            by_cases hk : k = i
            · subst hk; rw [hTi]; cases S k <;> cases l <;> cases b <;> simp_all
            · exact hT k hk
          rw [hTe] at keyJ2
          rw [hlb] at r5
          simp (disch := omega) only [go_sem, Nat.reduceEqDiff, Nat.reduceBEq, ↓reduceIte, reduceCtorEq, r0, r12, r13, r19, r20, r4, r5, r32, r33]
          exact keyJ2 _ ⟨(by simp [upd_app, r0] <;> omega), by simpa [upd_app, r3] using s3, (by simp [upd_app, r12] <;> omega), (by simp [upd_app, r13] <;> omega), (by simp [upd_app, r19] <;> omega), (by simp [upd_app] <;> omega), rfl, rfl, hin2⟩ (by omega)
    · obtain rfl : i = n := by omega
      simp (disch := omega) only [go_sem, Nat.reduceEqDiff, Nat.reduceBEq, ↓reduceIte, reduceCtorEq, s0, s12, s13, s19, s20]
      exact keyJ _ ⟨(by simp [upd_app, s0] <;> omega), by simpa [upd_app] using s3, (by simp [upd_app, s12] <;> omega), (by simp [upd_app] <;> omega), rfl, rfl, hin⟩ (by omega)
  · obtain rfl : t = n := by omega
    have hfin : endsB (lvL rs) (nzL rs) t = decide ((setL (eAll (lvL rs) (nzL rs) t t) t).length = t) := by rw [setL_all]; rfl
    rw [hfin] at hQ
    have hsl := setL_len (S := eAll (lvL rs) (nzL rs) t t) (n := t)
    rcases g3 with g3 | ⟨g3, hse⟩
    · generalize setL (eAll (lvL rs) (nzL rs) t t) t = sl at *
      have hx : (((sl.length : Nat) : Int) == (t : Int)) = decide (sl.length = t) := by
        by_cases c : sl.length = t <;> simp [c] <;> omega
      simp (disch := omega) only [go_sem, Nat.reduceEqDiff, Nat.reduceBEq, ↓reduceIte, reduceCtorEq, g0, g3, g12, g13, hbH, hs, natA_length, hx]
      rw [← hQ]
      exact postS_one (.inl rfl) rfl (by simp [upd_app] <;> omega) rfl (fun i hi _ => by simp only; exact hoi i hi)
    · rw [hse] at hQ
      have hx : ((0 : Int) == (t : Int)) = decide (([] : List Nat).length = t) := by
        by_cases c : 0 = t <;> simp [c] <;> omega
      simp (disch := omega) only [go_sem, Nat.reduceEqDiff, Nat.reduceBEq, ↓reduceIte, reduceCtorEq, g0, g3, g12, g13, hbH, hs, hkH, List.length_nil, hx]
      rw [← hQ]
      exact postS_one (.inl rfl) rfl (by simp [upd_app] <;> omega) rfl (fun i hi _ => by simp only; exact hoi i hi)
def posAll (qs : List Rat) : Bool := qs.all fun q => decide (0 < q)
theorem w_l07Above {qs : List Rat} (hl : qs.length ≤ 1000) : CW Tryz.prog 19 [lS 700 qs] (.bool (posAll qs)) := by
  refine cw (by kernel_rfl) (by simp [AV.pure, AV.pureL]) (by simp [AV.pure, AV.pureL]) ?_
  obtain ⟨L, hL⟩ : ∃ n, qs.length = n := ⟨_, rfl⟩
  rw [hL] at hl
  (refine callOk_of_wpc (W := fun _ => false) false hm' Tryz.func19 rfl (by kernel_rfl) (Nat.le_of_ble_eq_true rfl) (go_start ?_); generalize hQ : Post Tryz.prog Tryz.f19 _ _ _ _ _ = Q; simp only [stIn, matL, matA, st00])
  simp (disch := omega) only [go_sem, Nat.reduceEqDiff, Nat.reduceBEq, ↓reduceIte, reduceCtorEq, hL]
  refine k_loop (fun (i : Nat) st => st.fr 0 = lS 700 qs ∧ st.fr 5 = .int .i64 L ∧ st.fr 6 = .int .i64 i ∧ i ≤ L ∧ posAll (qs.take i) = true) (fun i => L - i) 0 ⟨(by simp [upd_app] <;> omega), (by simp [upd_app] <;> omega), (by simp [upd_app] <;> omega), by omega, rfl⟩ ?_
  rintro i ⟨fr, h, nx⟩ ⟨g0, g5, g6, hi, hp⟩ J hJ
  simp only at g0 g5 g6
  by_cases hin : i < L
  · obtain ⟨q, hq⟩ := get_some (xs := qs) (i := i) (by omega)
    have hZ := w_sZero (m := 700) (a := q) (by omega)
    have hN := w_sNeg (m := 700) (a := q) (by omega)
    have hbad : ¬ 0 < q → posAll qs = false := fun hn => by
      unfold posAll; rw [List.all_eq_false]; exact ⟨q, List.mem_of_getElem? hq, by simpa using hn⟩
    by_cases h0 : q = 0
    · rw [decide_eq_true h0] at hZ
      rw [hbad (by rw [h0]; decide)] at hQ
      simp (disch := omega) only [go_sem, Nat.reduceEqDiff, Nat.reduceBEq, ↓reduceIte, reduceCtorEq, g0, g5, g6, hL, hq, hZ]
      (repeat (with_reducible refine Or.inr ?_))
      rw [← hQ]
      exact post_one (.inl rfl) rfl (by simp [upd_app] <;> omega) rfl
    · rw [decide_eq_false h0] at hZ
      by_cases h1 : q < 0
      · rw [decide_eq_true h1] at hN
        rw [hbad (Rat.not_lt.2 (Rat.le_of_lt h1))] at hQ
        simp (disch := omega) only [go_sem, Nat.reduceEqDiff, Nat.reduceBEq, ↓reduceIte, reduceCtorEq, g0, g5, g6, hL, hq, hZ, hN]
        (repeat (with_reducible refine Or.inr ?_))
        rw [← hQ]
        exact post_one (.inl rfl) rfl (by simp [upd_app] <;> omega) rfl
      · rw [decide_eq_false h1] at hN
        have hpos : 0 < q := by grind
        simp (disch := omega) only [go_sem, Nat.reduceEqDiff, Nat.reduceBEq, ↓reduceIte, reduceCtorEq, g0, g5, g6, hL, hq, hZ, hN]
        (repeat (with_reducible refine Or.inr ?_))
        exact hJ (i + 1) _ ⟨(by simp [upd_app, g0] <;> omega), (by simp [upd_app, g5] <;> omega), (by simp [upd_app] <;> omega), hin, by
          unfold posAll at hp ⊢
          rw [List.take_add_one, hq, List.all_append, hp]; simpa using hpos⟩ (by omega)
  · obtain rfl : i = L := by omega
    rw [List.take_of_length_le (by omega)] at hp
    rw [hp] at hQ
    simp (disch := omega) only [go_sem, Nat.reduceEqDiff, Nat.reduceBEq, ↓reduceIte, reduceCtorEq, g0, g5, g6]
    rw [← hQ]
    exact post_one (.inl rfl) rfl (by simp [upd_app] <;> omega) rfl
theorem pos_mapM : ∀ (xs : List (List UInt8)), xs.mapM posR = match xs.mapM parseR with | some s => if posAll s = true then some s else none | none => none
 | [] => by simp [posAll]
 | x :: xs => by
  have ih := pos_mapM xs
  rw [List.mapM_cons, List.mapM_cons, ih]
  unfold posR
  cases parseR x with
  | none => rfl
  | some q =>
   simp only [Option.bind_eq_bind, Option.bind_some]
   cases xs.mapM parseR with
   | none => by_cases h : 0 < q <;> simp [h]
   | some s =>
    by_cases h : 0 < q <;> by_cases h2 : posAll s = true <;> simp_all [posAll]
    all_goals (split <;> rfl)
abbrev Ntw.av (m : Ntw) : AV := .agg [.sl 9 (strA m.arr) [] false, .sl 9 (strA m.srv) [] false, .sl 22 (rowsT m.rts) [] false]
def Ntw.small (m : Ntw) : Prop := textsOk m.arr ∧ textsOk m.srv ∧ m.rts.length ≤ 1000000 ∧ ∀ r ∈ m.rts, textsOk r
abbrev NR.sv (x : NR) : AV := .agg [lS 700 x.arr, lS 700 x.srv, .sl 34 (rwS x.rts) [] false]
def netS (m : Ntw) : AV := match netQ m with
 | some x => .tup [x.sv, .bool (endsB (lvL x.rts) (nzL x.rts) m.srv.length)]
 | none => .tup [.agg [.nil, .nil, .nil], .bool false]
attribute [go_sem] w_l07Above
end Go.Proofs.YtdljcbbodihagaaGreatDoor
