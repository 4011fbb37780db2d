/-
  Texts joined.
-/
import Derived.Lib.SliceRun
import Derived.Test.YtgfcbmflnldicaaGreatRF3
import Derived.Test.YtgfcbmflnldicaaGreatRF5
set_option linter.unusedVariables false
set_option linter.unusedSimpArgs false
set_option maxRecDepth 100000
set_option maxHeartbeats 40000000
namespace Go.Proofs.YtgfcbmflnldicaaGreat
open Go.RowKit
attribute [local go_sem ↓] Go.wp_at_zero Go.wp_at_succ
theorem grownBy_same {w a b : World} {row : Option Nat} (h : w.grownBy a row) (e1 : b.os = a.os) (e2 : b.tape = a.tape) (e3 : b.output = a.output) (e4 : b.heap = a.heap) : w.grownBy b row := ⟨e1.trans h.os, e2.trans h.tape, e3.trans h.output, by rw [e4]; exact h.size, fun i hi hne => by rw [e4]; exact h.block i hi hne⟩
theorem edge_eql (a b c d : Int) (w : World) : (binOp .eql 142 (.agg #[.int .i64 a, .int .i64 b]) (.agg #[.int .i64 c, .int .i64 d])).run Tryz.prog w = .ok (.bool (decide ((a, b) = (c, d)))) w := by
 have hS : Tryz.prog.underlying 142 = some (.struct (Tryz.prog.fieldsOf 142)) := by kernel_rfl
 have hp : Tryz.prog.stoodInHeld 142 = false := by kernel_rfl
 have u := Tryz.underlying2
 have a3 := Tryz.isAgg2
 have z3 := Tryz.sizeOf2
 rw [run_eql_struct, show (10000 : Nat) = 9999 + 1 from rfl, run_equalIn_agg w 9999 _ _ _ hS hp]
 simp only [Program.fieldsOf, Tryz.underlying142]
 go_simp
 by_cases h1 : a = c <;> by_cases h2 : b = d <;> simp [h1, h2]
theorem flatE_take (es : List (Int × Int)) (m : Nat) : (flatE es).take (m * 2) = flatE (es.take m) := by
 induction es generalizing m with
 | nil => simp [flatE]
 | cons e es ih =>
  cases m with
  | zero => simp [flatE]
  | succ m =>
   have e1 : (m + 1) * 2 = m * 2 + 1 + 1 := by omega
   have := ih m
   rw [e1]
   simp only [flatE, List.flatMap_cons, List.take_succ_cons, List.cons_append, List.nil_append] at this ⊢
   rw [this]
theorem ownsRow_setCells {B e size g n cap : Nat} : ∀ (vs : List Value) (o : Nat) (w : World) (L : List Value), w.ownsRow B e size (.slice (some ⟨g, 0, none⟩) n cap) n L →
    ∃ L', (w.setCells g o vs).ownsRow B e size (.slice (some ⟨g, 0, none⟩) n cap) n L' ∧ (∀ j, j < o → L'[j]? = L[j]?) ∧ w.grownBy (w.setCells g o vs) (some g)
 | [], _, w, L, h => ⟨L, h, fun _ _ => rfl, World.grownBy.refl w _⟩
 | v :: r, o, w, L, h => by
  obtain ⟨h1, h2⟩ := h.stored o v
  obtain ⟨L', a1, a2, a3⟩ := ownsRow_setCells r (o + 1) _ _ h1
  exact ⟨L', a1, fun j hj => by rw [a2 j (by omega), List.getElem?_set_ne (by omega)], grown_trans_row h2 a3⟩
theorem ownsRow_cut {w : World} {B e size g n m cap : Nat} {L : List Value} (h : w.ownsRow B e size (.slice (some ⟨g, 0, none⟩) n cap) n L) (hm : m ≤ n) : w.ownsRow B e size (.slice (some ⟨g, 0, none⟩) m cap) m (L.take (m * size)) := by
 have hmn : m * size ≤ n * size := Nat.mul_le_mul_right _ hm
 refine ⟨by rw [List.length_take, h.1]; omega, ?_⟩
 rcases h.2 with ⟨e0, _⟩ | ⟨g', cap', cur, e0, hB, hg, hn, hc, hs, ht⟩
 · cases e0
 · injection e0 with e1 _ e3
   injection e1 with e1
   injection e1 with e1 _
   subst e1; subst e3
   exact .inr ⟨g, cap, cur, rfl, hB, hg, by omega, hc, hs, by rw [← ht, List.take_take, Nat.min_eq_left hmn]⟩
theorem OwnE.clear {w : World} {B g c m k : Nat} {es : List (Int × Int)} {vs : List Value} (h : OwnE w B (.slice (some ⟨g, 0, none⟩) es.length c) es) (hm : m ≤ es.length) (hk : k = m * 2) :
    OwnE (w.setCells g k vs) B (.slice (some ⟨g, 0, none⟩) m c) (es.take m) ∧ w.grownBy (w.setCells g k vs) (some g) := by
 obtain ⟨hl, h⟩ := h
 obtain ⟨L', a1, a2, a3⟩ := ownsRow_setCells vs k w _ h
 have hc := ownsRow_cut a1 hm
 have e : L'.take (m * 2) = flatE (es.take m) := by
  rw [← flatE_take]
  apply List.ext_getElem?
  intro j
  rw [List.getElem?_take, List.getElem?_take]
  split
  · exact a2 j (by omega)
  · rfl
 rw [e] at hc
 have hml : (es.take m).length = m := by rw [List.length_take]; omega
 exact ⟨⟨by omega, by rw [hml]; exact hc⟩, a3⟩
theorem run_clear_edges (w : World) (ty : TypeId) (b o n c : Nat) (hn : 0 < n)
    (hc : ∀ j, j < n * 2 → (w.cell? ⟨b, o + j, none⟩).isSome = true) (hf : ∀ j, j < n * 2 → w.frozen? ⟨b, o + j, none⟩ = false) :
    (Builtin.clear_ #[25] ty #[.slice (some ⟨b, o, none⟩) n c]).run Tryz.prog w = .ok (.tuple #[]) (w.setCells b o (Builtin.zeroCells #[.int .i64 0, .int .i64 0] n).toList) := by
 have hlen : (Builtin.zeroCells #[.int .i64 0, .int .i64 0] n).toList.length = n * 2 := by simp [Builtin.zeroCells, Nat.mul_comm]
 have hv := Tryz.zeroValue142
 have hst := run_storeCells_cells (P := Tryz.prog) b o (Builtin.zeroCells #[.int .i64 0, .int .i64 0] n).toList 0 w (by rw [hlen]; simpa using hc) (by rw [hlen]; simpa using hf) (by
  intro v hv'
  simp [Builtin.zeroCells] at hv'
  obtain ⟨i, hi, rfl⟩ := hv'
  rcases Nat.mod_two_eq_zero_or_one i with h0 | h0 <;> simp [h0, Value.oneCell'])
 simp only [Nat.add_zero] at hst
 obtain ⟨m, rfl⟩ : ∃ m, n = m + 1 := ⟨n - 1, by omega⟩
 simp [Builtin.clear_, run_underlying Tryz.underlying25, hv, hst, Value.cells]
theorem cmpct_skip {es : List (Int × Int)} {k : Nat} (hk : 0 < k) (hl : k < es.length) (h : nthE es k = nthE es (k - 1)) : cmpct sameE (es.take (k + 1)) = cmpct sameE (es.take k) := by
 have hne : es.take k ≠ [] := by
  intro e
  have := congrArg List.length e
  rw [List.length_take, List.length_nil] at this
  omega
 rw [List.take_add_one, List.getElem?_eq_getElem hl]
 show cmpct sameE (es.take k ++ [es[k]]) = _
 rw [cmpct_snoc _ _ hne]
 have hla : (es.take k).getLast hne = nthE es (k - 1) := by
  rw [List.getLast_eq_getElem, List.getElem_take, nthE_lt (i := k - 1) (by omega)]
  congr 1
  rw [List.length_take]; omega
 rw [hla, ← h, nthE_lt hl]
 simp [sameE]
theorem cmpct_keep {es : List (Int × Int)} {k : Nat} (hk : 0 < k) (hl : k < es.length) (h : nthE es k ≠ nthE es (k - 1)) : cmpct sameE (es.take (k + 1)) = cmpct sameE (es.take k) ++ [nthE es k] := by
 have hne : es.take k ≠ [] := by
  intro e
  have := congrArg List.length e
  rw [List.length_take, List.length_nil] at this
  omega
 rw [List.take_add_one, List.getElem?_eq_getElem hl]
 show cmpct sameE (es.take k ++ [es[k]]) = _
 rw [cmpct_snoc _ _ hne]
 have hla : (es.take k).getLast hne = nthE es (k - 1) := by
  rw [List.getLast_eq_getElem, List.getElem_take, nthE_lt (i := k - 1) (by omega)]
  congr 1
  rw [List.length_take]; omega
 rw [hla, ← nthE_lt hl]
 have : sameE (nthE es k) (nthE es (k - 1)) = false := by simp [sameE, h]
 rw [this]; rfl
theorem take_nthE' {es : List (Int × Int)} {k : Nat} (h : k < es.length) : es.take k ++ [nthE es k] = es.take (k + 1) := by
 rw [List.take_add_one, nthE_lt h, List.getElem?_eq_getElem h]; rfl
theorem nthE_set_ne {es : List (Int × Int)} {i j : Nat} (h : i ≠ j) (e : Int × Int) : nthE (es.set i e) j = nthE es j := by
 simp [nthE, List.getD_eq_getElem?_getD, List.getElem?_set_ne h]
theorem take_set_snoc {ds : List (Int × Int)} {kk : Nat} (h : kk < ds.length) (e : Int × Int) : (ds.set kk e).take (kk + 1) = ds.take kk ++ [e] := by
 rw [List.take_add_one, List.take_set_of_le (Nat.le_refl _)]
 simp [h]
structure CmpI (es ds : List (Int × Int)) (p kk : Nat) : Prop where
 len : ds.length = es.length
 kp : kk < p
 pl : p ≤ es.length
 done : ds.take kk = cmpct sameE (es.take p)
 rest : ∀ i, p - 1 ≤ i → nthE ds i = nthE es i
theorem CmpI.skip {es ds : List (Int × Int)} {p kk : Nat} (h : CmpI es ds p kk) (hp : p < es.length) (e : nthE es p = nthE es (p - 1)) : CmpI es ds (p + 1) kk :=
 ⟨h.len, by have := h.kp; omega, by omega, by rw [cmpct_skip (by have := h.kp; omega) hp e]; exact h.done, fun i hi => h.rest i (by omega)⟩
theorem CmpI.keep {es ds : List (Int × Int)} {p kk : Nat} (h : CmpI es ds p kk) (hp : p < es.length) (e : nthE es p ≠ nthE es (p - 1)) : CmpI es (ds.set kk (nthE es p)) (p + 1) (kk + 1) := by
 have h1 := h.kp
 have h2 := h.len
 refine ⟨by rw [List.length_set]; exact h2, by omega, by omega, ?_, fun i hi => ?_⟩
 · rw [take_set_snoc (by omega), h.done, cmpct_keep (by omega) hp e]
 · rw [nthE_set_ne (by omega)]
   exact h.rest i (by omega)
theorem compactE_any {B g c : Nat} {es : List (Int × Int)} {w : World} (h : OwnE w B (.slice (some ⟨g, 0, none⟩) es.length c) es) (hcap : es.length ≤ c) :
    Calls Tryz.prog 191 #[.slice (some ⟨g, 0, none⟩) es.length c] w fun e w' => ∃ m, e = .returned (.slice (some ⟨g, 0, none⟩) m c) ∧ OwnE w' B (.slice (some ⟨g, 0, none⟩) m c) (cmpct sameE es) ∧ w.grownBy w' (some g) := by
 have hl := h.1
 have hg := edge_guard
 have HO := hide h
 have hcc : c ≤ 9223372036854775807 := by
  rcases h.2.2 with ⟨e, _⟩ | ⟨g', cap', cur, e, _, _, _, hm, _⟩
  · cases e
  · injection e with _ _ e
    unfold maxLen at hm
    omega
 clear h
 by_cases h2 : es.length < 2
 · have he : cmpct sameE es = es := by
     match es, h2 with
     | [], _ => rfl
     | [x], _ => rfl
     | _ :: _ :: _, h => exact absurd h (by simp)
   have HE := Lib.hid he
   clear he
   go_enter Tryz.func191, Tryz.ntmps191
   go_wp2
   go_ret
   exact ⟨_, rfl, by rw [HE.out]; exact unhide HO, World.grownBy.refl _ _⟩
 go_enter Tryz.func191, Tryz.ntmps191
 go_wp2_with fail
 go_loopw [3] (fun kv wr => ∃ k q : Nat, kv = .int .i64 k ∧ 1 ≤ k ∧ k ≤ es.length ∧ wr = w.drewN q ∧ Hid (cmpct sameE (es.take k) = es.take k)) (fun kv _ => es.length - (intOf kv).toNat)
 case atStart =>
  refine ⟨1, 0, rfl, Nat.le_refl _, by omega, rfl, ?_⟩
  show _ = _
  match es, h2 with
  | [], h => simp at h
  | x :: xs, _ => rfl
 case round =>
  obtain ⟨k, q, rfl, hk1, hk, rfl, hq⟩ := hrel
  by_cases hkn : k < es.length
  · obtain ⟨m, rfl⟩ : ∃ m, k = m + 1 := ⟨k - 1, by omega⟩
    have c1 := (unhide HO).cell (j := m + 1) hkn
    have c0 := (unhide HO).cell (j := m) (by omega)
    obtain ⟨c1a, c1b⟩ := c1
    obtain ⟨c0a, c0b⟩ := c0
    have hw4 : IntKind.i64.wrap (m : Int) = (m : Int) := IntWalk.i64_in _ (by omega)
    have hq0 := edge_eql (nthE es (m + 1)).1 (nthE es (m + 1)).2 (nthE es m).1 (nthE es m).2
    have hml : m < es.length := by omega
    by_cases he : nthE es (m + 1) = nthE es m
    · have e0 : decide (((nthE es (m + 1)).1, (nthE es (m + 1)).2) = ((nthE es m).1, (nthE es m).2)) = true := by simp [he]
      rw [e0] at hq0
      have hsk := cmpct_skip (es := es) (k := m + 1) (by omega) hkn (by rw [Nat.add_sub_cancel]; exact he)
      have HI := hide (show CmpI es es (m + 1 + 1) (m + 1) from ⟨rfl, by omega, by omega, by rw [hsk, hq.out], fun _ _ => rfl⟩)
      have HG := hide (show w.grownBy w (some g) from World.grownBy.refl _ _)
      clear he e0 hsk
      go_wp2_with fail
      go_quiet (fail)
      have hO := (unhide HO)
      have O2 := hide (show OwnE ((w.drewN q).drewN nq) B (.slice (some ⟨g, 0, none⟩) es.length c) es from hO)
      have G2 := hide (show w.grownBy ((w.drewN q).drewN nq) (some g) from ⟨rfl, rfl, rfl, Nat.le_refl _, fun _ _ _ => rfl⟩)
      have hkc : m + 1 < c := by omega
      have hkc2 : ¬ c = m + 1 := by omega
      clear hw4 hq0 c1a c1b c0a c0b hO
      go_wp2_with fail
      go_loopw [3, 5] (fun kv jv wr => ∃ (kk k2 : Nat) (ds : List (Int × Int)), kv = .int .i64 kk ∧ jv = .int .i64 k2 ∧ 1 ≤ k2 ∧ m + 1 + k2 ≤ es.length ∧ Hid (OwnE wr B (.slice (some ⟨g, 0, none⟩) es.length c) ds) ∧ Hid (CmpI es ds (m + 1 + k2) kk) ∧ Hid (w.grownBy wr (some g))) (fun _ jv _ => es.length - (intOf jv).toNat)
      case atStart => exact ⟨m + 1, 1, es, rfl, rfl, Nat.le_refl _, by omega, O2, HI, grownBy_same (unhide G2) rfl rfl rfl rfl⟩
      case round =>
       obtain ⟨kk, k2, ds, rfl, rfl, hk2, hle, ho, hI, hgr⟩ := hrel
       have hkp := hI.out.kp
       have hdl := hI.out.len
       have HDL := Lib.hid hdl
       by_cases hlt : m + 1 + k2 < es.length
       · obtain ⟨j, rfl⟩ : ∃ j, k2 = j + 1 := ⟨k2 - 1, by omega⟩
         obtain ⟨c1a, c1b⟩ := ho.out.cell (j := m + 1 + (j + 1)) (by omega)
         obtain ⟨c0a, c0b⟩ := ho.out.cell (j := m + 1 + j) (by omega)
         obtain ⟨ua, cka⟩ : ∃ u, wr.cell? ⟨g, kk * 2, none⟩ = some u := ⟨_, (ho.out.cell (j := kk) (by omega)).1⟩
         obtain ⟨ub, ckb⟩ : ∃ u, wr.cell? ⟨g, kk * 2 + 1, none⟩ = some u := ⟨_, (ho.out.cell (j := kk) (by omega)).2⟩
         have fa := ho.out.frozen (kk * 2)
         have fb := ho.out.frozen (kk * 2 + 1)
         rw [hI.out.rest _ (by omega)] at c1a c1b c0a c0b
         rw [show (m + 1 + (j + 1)) * 2 = (m + 1) * 2 + (j + 1) * 2 by omega] at c1a c1b
         rw [show (m + 1 + j) * 2 = (m + 1) * 2 + j * 2 by omega] at c0a c0b
         have hw4 : IntKind.i64.wrap (j : Int) = (j : Int) := IntWalk.i64_in _ (by omega)
         obtain ⟨x, hx⟩ : ∃ z, z = (nthE es (m + 1 + (j + 1))).1 := ⟨_, rfl⟩
         obtain ⟨y, hy⟩ : ∃ z, z = (nthE es (m + 1 + (j + 1))).2 := ⟨_, rfl⟩
         obtain ⟨x0, hx0⟩ : ∃ z, z = (nthE es (m + 1 + j)).1 := ⟨_, rfl⟩
         obtain ⟨y0, hy0⟩ : ∃ z, z = (nthE es (m + 1 + j)).2 := ⟨_, rfl⟩
         have he1 : nthE es (m + 1 + (j + 1)) = (x, y) := by rw [hx, hy]
         have he0 : nthE es (m + 1 + j) = (x0, y0) := by rw [hx0, hy0]
         rw [← hx] at c1a
         rw [← hy] at c1b
         rw [← hx0] at c0a
         rw [← hy0] at c0b
         have HE1 := Lib.hid he1
         have HE0 := Lib.hid he0
         have hq0 := edge_neq x y x0 y0
         have hj1 : j + 1 < es.length - (m + 1) := by omega
         have hj0 : j < es.length - (m + 1) := by omega
         have hkl : kk < es.length := by omega
         have HDD := Lib.hid hdl
         clear hx hy hx0 hy0 he1 he0 hdl
         by_cases he : (x, y) = (x0, y0)
         · have e0 : decide ((x, y) ≠ (x0, y0)) = false := by simp [he]
           rw [e0] at hq0
           have HI2 := hide (hI.out.skip (p := m + 1 + (j + 1)) hlt (by rw [show m + 1 + (j + 1) - 1 = m + 1 + j by omega, HE1.out, HE0.out]; exact he))
           clear he e0
           go_wp2_with fail
           go_quiet (fail)
           go_wp2_with fail
           go_roundw
           case rel => exact ⟨kk, j + 1 + 1, ds, rfl, by go_num, by omega, by omega, ho, by have h := unhide HI2; exact h, grownBy_same hgr.out rfl rfl rfl rfl⟩
           case measure => simp only [intOf]; omega
         · have e0 : decide ((x, y) ≠ (x0, y0)) = true := decide_eq_true he
           rw [e0] at hq0
           have hkp2 := hI.out.keep (p := m + 1 + (j + 1)) hlt (by rw [show m + 1 + (j + 1) - 1 = m + 1 + j by omega, HE1.out, HE0.out]; exact he)
           rw [HE1.out] at hkp2
           have HI2 := hide hkp2
           have hs := ho.out.set2 (j := kk) (by rw [HDD.out]; exact hkl) x y
           have HS := hide hs
           clear he e0 hkp2 hs
           go_wp2_with fail
           go_quiet (fail)
           go_wp2_with fail
           go_roundw
           case rel => exact ⟨kk + 1, j + 1 + 1, _, by go_num, by go_num, by omega, by omega, (unhide HS).1, unhide HI2, grownBy_same (grown_trans_row hgr.out (unhide HS).2) rfl rfl rfl rfl⟩
           case measure => simp only [intOf]; omega
       · have hend : m + 1 + k2 = es.length := by omega
         have hdn := hI.out.done
         rw [hend, List.take_length] at hdn
         have hkl : kk < es.length := by omega
         have hcl : ∀ ty, (Builtin.clear_ #[25] ty #[.slice (some ⟨g, kk * 2, none⟩) (es.length - kk) (c - kk)]).run Tryz.prog wr = .ok (.tuple #[]) (wr.setCells g (kk * 2) (Builtin.zeroCells #[.int .i64 0, .int .i64 0] (es.length - kk)).toList) := fun ty => run_clear_edges wr ty g (kk * 2) (es.length - kk) (c - kk) (by omega) (fun j hj => by
          have hjj : kk + j / 2 < ds.length := by omega
          have hc := ho.out.cell (j := kk + j / 2) hjj
          rcases Nat.mod_two_eq_zero_or_one j with h0 | h0
          · rw [show kk * 2 + j = (kk + j / 2) * 2 by omega, hc.1]; rfl
          · rw [show kk * 2 + j = (kk + j / 2) * 2 + 1 by omega, hc.2]; rfl) (fun j _ => ho.out.frozen _)
         have hfin := OwnE.clear (vs := (Builtin.zeroCells #[.int .i64 0, .int .i64 0] (es.length - kk)).toList) (by rw [HDL.out]; exact ho.out) (show kk ≤ ds.length by omega) rfl
         rw [hdn] at hfin
         have FIN := hide hfin
         have hkc3 : kk < c := by omega
         have hkc4 : ¬ c = kk := by omega
         clear hfin hdn hdl hend
         go_wp2_with fail
         go_ret
         exact ⟨_, rfl, (unhide FIN).1, grown_trans_row hgr.out (unhide FIN).2⟩
    · have e0 : decide (((nthE es (m + 1)).1, (nthE es (m + 1)).2) = ((nthE es m).1, (nthE es m).2)) = false := by simp [he]
      rw [e0] at hq0
      have hkp := cmpct_keep (es := es) (k := m + 1) (by omega) hkn (by rw [Nat.add_sub_cancel]; exact he)
      have hq2 : cmpct sameE (es.take (m + 1 + 1)) = es.take (m + 1 + 1) := by rw [hkp, hq.out, take_nthE' hkn]
      have HQ := hide hq2
      clear he e0 hkp hq2
      go_wp2_with fail
      go_quiet (fail)
      go_wp2_with fail
      go_roundw
      case rel => exact ⟨m + 1 + 1, _, by go_num, by omega, by omega, rfl, unhide HQ⟩
      case measure => simp only [intOf]; omega
  · have hke : k = es.length := by omega
    have hq2 := hq.out
    rw [hke, List.take_length] at hq2
    have HQ := Lib.hid hq2
    clear hq2 hke
    go_wp2_with fail
    go_ret
    exact ⟨_, rfl, by rw [HQ.out]; exact unhide HO, ⟨rfl, rfl, rfl, Nat.le_refl _, fun _ _ _ => rfl⟩⟩
end Go.Proofs.YtgfcbmflnldicaaGreat
