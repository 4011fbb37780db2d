/-
  Texts joined.
-/
import Derived.Test.YtkiljcbejmiioaaGreatLK1
import Derived.Test.YtkiljcbejmiioaaGreatLK15
import Derived.Test.YtkiljcbejmiioaaGreatLK30
import Derived.Test.YtkiljcbejmiioaaGreatLK31
set_option linter.unusedVariables false
set_option linter.unusedSimpArgs false
set_option maxRecDepth 100000
set_option maxHeartbeats 40000000
namespace Go.Proofs.YtkiljcbejmiioaaGreat
open Go.RowKit
def eqH (h k : Hdr) : Bool := decide (h.xs = k.xs)
theorem cmpctFrom_map : ∀ (x : Hdr) (ys : List Hdr), (cmpctFrom eqH x ys).map Hdr.xs = cmpctFrom eqL x.xs (ys.map Hdr.xs)
 | _, [] => rfl
 | x, y :: ys => by
  rw [List.map_cons, cmpctFrom, cmpctFrom]
  by_cases h : eqH y x = true
  · have h2 : eqL y.xs x.xs = true := h
    rw [if_pos h, if_pos h2]; exact cmpctFrom_map y ys
  · have h2 : ¬ eqL y.xs x.xs = true := h
    rw [if_neg h, if_neg h2, List.map_cons, cmpctFrom_map y ys]
theorem cmpct_map (hs : List Hdr) : (cmpct eqH hs).map Hdr.xs = cmpct eqL (hs.map Hdr.xs) := by
 cases hs with
 | nil => rfl
 | cons x ys => rw [cmpct, List.map_cons, List.map_cons, cmpct, cmpctFrom_map]
theorem lastH {es : List Hdr} {k : Nat} (hk : 0 < k) (hl : k < es.length) (hne : es.take k ≠ []) : (es.take k).getLast hne = hdAt es (k - 1) := by
 rw [List.getLast_eq_getElem, List.getElem_take, hdAt_lt (i := k - 1) (by omega)]
 congr 1
 rw [List.length_take]; omega
theorem takeH {es : List Hdr} {k : Nat} (h : k < es.length) : es.take (k + 1) = es.take k ++ [hdAt es k] := by
 rw [List.take_add_one, hdAt_lt h, List.getElem?_eq_getElem h]; rfl
theorem takeH_ne {es : List Hdr} {k : Nat} (hk : 0 < k) (hl : k < es.length) : es.take k ≠ [] := by
 intro e
 have := congrArg List.length e
 rw [List.length_take, List.length_nil] at this
 omega
theorem cmpctH_skip {es : List Hdr} {k : Nat} (hk : 0 < k) (hl : k < es.length) (h : (hdAt es k).xs = (hdAt es (k - 1)).xs) : cmpct eqH (es.take (k + 1)) = cmpct eqH (es.take k) := by
 have hne := takeH_ne hk hl
 rw [takeH hl, cmpct_snoc _ _ hne, lastH hk hl hne]
 simp [eqH, h]
theorem cmpctH_keep {es : List Hdr} {k : Nat} (hk : 0 < k) (hl : k < es.length) (h : (hdAt es k).xs ≠ (hdAt es (k - 1)).xs) : cmpct eqH (es.take (k + 1)) = cmpct eqH (es.take k) ++ [hdAt es k] := by
 have hne := takeH_ne hk hl
 rw [takeH hl, cmpct_snoc _ _ hne, lastH hk hl hne]
 simp [eqH, h]
theorem hdAt_set_ne {es : List Hdr} {i j : Nat} (h : i ≠ j) (e : Hdr) : hdAt (es.set i e) j = hdAt es j := by
 simp [hdAt, List.getD_eq_getElem?_getD, List.getElem?_set_ne h]
theorem takeH_set {ds : List Hdr} {kk : Nat} (h : kk < ds.length) (e : Hdr) : (ds.set kk e).take (kk + 1) = ds.take kk ++ [e] := by
 rw [List.take_add_one, List.take_set_of_le (Nat.le_refl _)]
 simp [h]
structure CmpH (es ds : List Hdr) (p kk : Nat) : Prop where
 len : ds.length = es.length
 kp : kk < p
 pl : p ≤ es.length
 done : ds.take kk = cmpct eqH (es.take p)
 rest : ∀ i, p - 1 ≤ i → hdAt ds i = hdAt es i
theorem CmpH.skip {es ds : List Hdr} {p kk : Nat} (h : CmpH es ds p kk) (hp : p < es.length) (e : (hdAt es p).xs = (hdAt es (p - 1)).xs) : CmpH es ds (p + 1) kk :=
 ⟨h.len, by have := h.kp; omega, by omega, by rw [cmpctH_skip (by have := h.kp; omega) hp e]; exact h.done, fun i hi => h.rest i (by omega)⟩
theorem CmpH.keep {es ds : List Hdr} {p kk : Nat} (h : CmpH es ds p kk) (hp : p < es.length) (e : (hdAt es p).xs ≠ (hdAt es (p - 1)).xs) : CmpH es (ds.set kk (hdAt es p)) (p + 1) (kk + 1) := by
 have h1 := h.kp
 have h2 := h.len
 refine ⟨by rw [List.length_set]; exact h2, by omega, by omega, ?_, fun i hi => ?_⟩
 · rw [takeH_set (by omega), h.done, cmpctH_keep (by omega) hp e]
 · rw [hdAt_set_ne (by omega)]
   exact h.rest i (by omega)
section
variable {w0 w w' : World} {v : Value} {hs : List Hdr}
theorem OwnR.cell {g n c : Nat} (h : OwnR w0 w (.slice (some ⟨g, 0, Option.none⟩) n c) hs) {j : Nat} (hj : j < hs.length) : w.cell? ⟨g, j, Option.none⟩ = some (hdAt hs j).val := by
 rcases h.form with ⟨e, _⟩ | ⟨g', c', e, _⟩
 · cases e
 · injection e with e1 e2 e3
   injection e1 with e1
   injection e1 with e1
   subst e1
   subst e2
   subst e3
   rw [h.2.1.cellAt j (by omega), List.getElem?_map, List.getElem?_eq_getElem hj, hdAt_lt hj]; rfl
theorem OwnR.frozen {g n c : Nat} (h : OwnR w0 w (.slice (some ⟨g, 0, Option.none⟩) n c) hs) (j : Nat) : w.frozen? ⟨g, j, Option.none⟩ = false := by
 rcases h.form with ⟨e, _⟩ | ⟨g', c', e, _⟩
 · cases e
 · injection e with e1 e2 e3
   injection e1 with e1
   injection e1 with e1
   subst e1
   subst e2
   subst e3
   exact h.2.1.frozenAt j
theorem OwnR.set {g c : Nat} (h : OwnR w0 w (.slice (some ⟨g, 0, Option.none⟩) hs.length c) hs) (j : Nat) {k : Hdr} (hk : Rd w0 k.a k.xs) :
    OwnR w0 (w.setCell ⟨g, j, Option.none⟩ k.val) (.slice (some ⟨g, 0, Option.none⟩) hs.length c) (hs.set j k) ∧ w.grownBy (w.setCell ⟨g, j, Option.none⟩ k.val) (some g) := by
 obtain ⟨hl, hr, hd, hb⟩ := h
 have hB := (hr.lt g rfl).1
 obtain ⟨h1, h2⟩ := hr.stored j k.val
 refine ⟨⟨by simpa using hl, ?_, fun x hx => ?_, hb.setCell (by show w0.heap.size ≤ g; omega) _⟩, h2⟩
 · rw [List.map_set, List.length_set]; exact h1
 · rcases List.mem_or_eq_of_mem_set hx with h3 | rfl
   · exact hd x h3
   · exact hk
end
end Go.Proofs.YtkiljcbejmiioaaGreat
namespace Go.Proofs.YtkiljcbejmiioaaGreat
open Go.RowKit
attribute [local go_sem ↓] Go.wp_at_zero Go.wp_at_succ
theorem OwnR.qt {w0 w w' : World} {v : Value} {hs : List Hdr} (h : OwnR w0 w v hs) (q : Qt w w') : OwnR w0 w' v hs := by
 obtain ⟨k, rfl⟩ := q
 exact ⟨h.1, h.2.1, h.2.2.1, h.2.2.2.trans (Qt.below ⟨k, rfl⟩ _)⟩
theorem grownBy_qt {w a b : World} {row : Option Nat} (h : w.grownBy a row) (q : Qt a b) : w.grownBy b row := by
 obtain ⟨k, rfl⟩ := q
 exact ⟨h.os, h.tape, h.output, h.size, h.block⟩
theorem run_clear_hdrs (w : World) (ty : TypeId) (b o n c : Nat) (hn : 0 < n) (hc : ∀ j, j < n → (w.cell? ⟨b, o + j, none⟩).isSome = true) (hf : ∀ j, j < n → w.frozen? ⟨b, o + j, none⟩ = false) :
    (Builtin.clear_ #[24] ty #[.slice (some ⟨b, o, none⟩) n c]).run Tryz.prog w = .ok (.tuple #[]) (w.setCells b o (Builtin.zeroCells #[.slice none 0 0] n).toList) := by
 have hlen : (Builtin.zeroCells #[.slice none 0 0] n).toList.length = n := by simp [Builtin.zeroCells]
 have hv := Tryz.zeroValue28
 have hst := run_storeCells_cells (P := Tryz.prog) b o (Builtin.zeroCells #[.slice none 0 0] n).toList 0 w (by rw [hlen]; simpa using hc) (by rw [hlen]; simpa using hf) (by
  intro v hv'
  simp [Builtin.zeroCells] at hv'
  obtain ⟨i, hi, rfl⟩ := hv'
  simp [Value.oneCell', Nat.mod_one])
 simp only [Nat.add_zero] at hst
 obtain ⟨m, rfl⟩ : ∃ m, n = m + 1 := ⟨n - 1, by omega⟩
 simp [Builtin.clear_, run_underlying Tryz.underlying24, hv, hst, Value.cells]
theorem OwnR.clear {w0 w : World} {g c m : Nat} {es : List Hdr} {vs : List Value} (h : OwnR w0 w (.slice (some ⟨g, 0, none⟩) es.length c) es) (hm : m ≤ es.length) :
    OwnR w0 (w.setCells g m vs) (.slice (some ⟨g, 0, none⟩) m c) (es.take m) ∧ w.grownBy (w.setCells g m vs) (some g) := by
 obtain ⟨hl, hr, hd, hb⟩ := h
 have hB := (hr.lt g rfl).1
 obtain ⟨L', a1, a2, a3⟩ := ownsRow_setCells vs m w _ hr
 have hc := ownsRow_cut a1 hm
 have e : L'.take (m * 1) = (es.take m).map Hdr.val := by
  rw [List.map_take]
  apply List.ext_getElem?
  intro j
  rw [List.getElem?_take, List.getElem?_take, Nat.mul_one]
  split
  · exact a2 j (by omega)
  · rfl
 rw [e] at hc
 have hml : (es.take m).length = m := by rw [List.length_take]; omega
 exact ⟨⟨by omega, by rw [hml]; exact hc, fun x hx => hd x (List.mem_of_mem_take hx), hb.grown a3 hb.size (fun q hq => by injection hq with hq; omega)⟩, a3⟩
end Go.Proofs.YtkiljcbejmiioaaGreat
namespace Go.Proofs.YtkiljcbejmiioaaGreat
open Go.RowKit Go.Sort Go.Lib
def Rdy (w0 : World) (v : Value) (h : Hdr) : Prop := Rd w0 h.a h.xs ∧ ∀ p, h.a = some p → some p.block ≠ v.ownBlock
theorem Rdy.none (w0 : World) (v : Value) : Rdy w0 v Hdr.none := ⟨Rd.nil _ _, fun p h => by cases h⟩
def OwnV (B : Nat) (w0 w : World) (v : Value) (hs : List Hdr) : Prop := hs.length ≤ 1048576 ∧ w.ownsRow B 28 1 v hs.length (hs.map Hdr.val) ∧ (∀ h ∈ hs, Rdy w0 v h) ∧ w0.grownBy w v.ownBlock
section
variable {B : Nat} {w0 w w' : World} {v : Value} {hs : List Hdr}
theorem OwnV.rd (h : OwnV B w0 w v hs) (i : Nat) : Rdy w0 v (hdAt hs i) := by
 by_cases hi : i < hs.length
 · rw [hdAt_lt hi]; exact h.2.2.1 _ (List.getElem_mem hi)
 · rw [hdAt, List.getD_eq_getElem?_getD, List.getElem?_eq_none (by omega)]
   exact Rdy.none _ _
theorem OwnV.rdw (h : OwnV B w0 w v hs) (i : Nat) : Rd w (hdAt hs i).a (hdAt hs i).xs := (h.rd i).1.grow h.2.2.2 (h.rd i).2
theorem OwnV.form (h : OwnV B w0 w v hs) : (v = .slice Option.none 0 0 ∧ hs = []) ∨ ∃ g c, v = .slice (some ⟨g, 0, Option.none⟩) hs.length c ∧ B ≤ g ∧ g < w.heap.size := by
 rcases h.2.1.2 with ⟨rfl, h0⟩ | ⟨g, cap, cur, rfl, hb, hg, _⟩
 · exact .inl ⟨rfl, List.eq_nil_of_length_eq_zero h0⟩
 · exact .inr ⟨g, cap, rfl, hb, (Array.getElem?_eq_some_iff.1 hg).1⟩
theorem OwnV.cell {g n c : Nat} (h : OwnV B w0 w (.slice (some ⟨g, 0, Option.none⟩) n c) hs) {j : Nat} (hj : j < hs.length) : w.cell? ⟨g, j, Option.none⟩ = some (hdAt hs j).val := by
 rcases h.form with ⟨e, _⟩ | ⟨g', c', e, _⟩
 · cases e
 · injection e with e1 e2 e3
   injection e1 with e1
   injection e1 with e1
   subst e1
   subst e2
   subst e3
   rw [h.2.1.cellAt j (by omega), List.getElem?_map, List.getElem?_eq_getElem hj, hdAt_lt hj]; rfl
theorem OwnV.frozen {g n c : Nat} (h : OwnV B w0 w (.slice (some ⟨g, 0, Option.none⟩) n c) hs) (j : Nat) : w.frozen? ⟨g, j, Option.none⟩ = false := by
 rcases h.form with ⟨e, _⟩ | ⟨g', c', e, _⟩
 · cases e
 · injection e with e1 e2 e3
   injection e1 with e1
   injection e1 with e1
   subst e1
   subst e2
   subst e3
   exact h.2.1.frozenAt j
theorem OwnV.set {g c : Nat} (h : OwnV B w0 w (.slice (some ⟨g, 0, Option.none⟩) hs.length c) hs) (j : Nat) {k : Hdr} (hk : Rdy w0 (.slice (some ⟨g, 0, Option.none⟩) hs.length c) k) :
    OwnV B w0 (w.setCell ⟨g, j, Option.none⟩ k.val) (.slice (some ⟨g, 0, Option.none⟩) hs.length c) (hs.set j k) ∧ w.grownBy (w.setCell ⟨g, j, Option.none⟩ k.val) (some g) := by
 obtain ⟨hl, hr, hd, hb⟩ := h
 obtain ⟨h1, h2⟩ := hr.stored j k.val
 refine ⟨⟨by simpa using hl, ?_, fun x hx => ?_, hb.trans h2⟩, h2⟩
 · rw [List.map_set, List.length_set]; exact h1
 · rcases List.mem_or_eq_of_mem_set hx with h3 | rfl
   · exact hd x h3
   · exact hk
theorem OwnV.qt (h : OwnV B w0 w v hs) (q : Qt w w') : OwnV B w0 w' v hs := by
 obtain ⟨k, rfl⟩ := q
 exact ⟨h.1, h.2.1, h.2.2.1, grownBy_qt h.2.2.2 ⟨k, rfl⟩⟩
theorem OwnV.clear {g c m : Nat} {es : List Hdr} {vs : List Value} (h : OwnV B w0 w (.slice (some ⟨g, 0, Option.none⟩) es.length c) es) (hm : m ≤ es.length) :
    OwnV B w0 (w.setCells g m vs) (.slice (some ⟨g, 0, Option.none⟩) m c) (es.take m) ∧ w.grownBy (w.setCells g m vs) (some g) := by
 obtain ⟨hl, hr, hd, hb⟩ := h
 obtain ⟨L', a1, a2, a3⟩ := ownsRow_setCells vs m w _ hr
 have hc := ownsRow_cut a1 hm
 have e : L'.take (m * 1) = (es.take m).map Hdr.val := by
  rw [List.map_take]
  apply List.ext_getElem?
  intro j
  rw [List.getElem?_take, List.getElem?_take, Nat.mul_one]
  split
  · exact a2 j (by omega)
  · rfl
 rw [e] at hc
 have hml : (es.take m).length = m := by rw [List.length_take]; omega
 exact ⟨⟨by omega, by rw [hml]; exact hc, fun x hx => hd x (List.mem_of_mem_take hx), hb.trans a3⟩, a3⟩
end
def Apt (h k : Hdr) : Prop := ∀ b, h.val.ownBlock = some b → k.val.ownBlock ≠ some b
theorem Apt.symm {h k : Hdr} (a : Apt h k) : Apt k h := fun b h1 h2 => a b h2 h1
theorem OwnS.hdrs {w : World} {B : Nat} {v : Value} {K : List (List Int)} (h : OwnS w B v K) (hn : K.length ≤ 1048576) : ∃ hs : List Hdr, hs.map Hdr.xs = K ∧ OwnV B w w v hs ∧ (∀ k ∈ hs, Own w B k.val k.xs) ∧ hs.Pairwise Apt := by
 obtain ⟨hl, vs, hr, hin⟩ := h
 obtain ⟨hs, e1, e2, e3⟩ := hdrs_of hin.1 hin.2.1
 have hvl : vs.length = K.length := hin.1
 have hhl : hs.length = K.length := by rw [← e2, List.length_map]
 have own : ∀ k ∈ hs, Own w B k.val k.xs := fun k hk => by
  obtain ⟨i, hi, rfl⟩ := List.getElem_of_mem hk
  have h1 := hin.2.1 i hs[i].val (by rw [← e1, List.getElem?_map, List.getElem?_eq_getElem hi]; rfl)
  have h2 : nthL K i = hs[i].xs := by
   rw [← e2, nthL_lt (by rw [List.length_map]; exact hi), List.getElem_map]
  rw [h2] at h1
  exact h1
 refine ⟨hs, e2, ⟨by omega, by rw [hhl, e1]; exact hr, fun k hk => ⟨e3 k hk, fun p hp e => ?_⟩, World.grownBy.refl _ _⟩, own, ?_⟩
 · have h1 := own k hk
   rw [Hdr.val, hp] at h1
   exact Own.notSliceBlock hr h1 p.block rfl e.symm
 · rw [List.pairwise_iff_getElem]
   intro i j hi hj hij b hb
   exact hin.2.2 i j hs[i].val hs[j].val b (by omega) (by rw [← e1, List.getElem?_map, List.getElem?_eq_getElem hi]; rfl) (by rw [← e1, List.getElem?_map, List.getElem?_eq_getElem hj]; rfl) hb
theorem OwnS.of_hdrs {w : World} {B : Nat} {v : Value} {ks : List Hdr} (hl : ks.length ≤ 1048576) (hr : w.ownsRow B 28 1 v ks.length (ks.map Hdr.val)) (own2 : ∀ k ∈ ks, Own w B k.val k.xs) (apt2 : ks.Pairwise Apt) : OwnS w B v (ks.map Hdr.xs) := by
 refine ⟨by rw [List.length_map]; omega, ks.map Hdr.val, by rw [List.length_map]; exact hr, by simp, fun i x hx => ?_, fun i j x y b hij hx hy hb => ?_⟩
 · rw [List.getElem?_map] at hx
   cases hk : ks[i]? with
   | none => rw [hk] at hx; cases hx
   | some k =>
    rw [hk] at hx
    injection hx with hx
    obtain ⟨hi, hk2⟩ := List.getElem?_eq_some_iff.1 hk
    rw [nthL_lt (by rw [List.length_map]; exact hi), List.getElem_map, hk2, ← hx]
    exact own2 k (by rw [← hk2]; exact List.getElem_mem hi)
 · rw [List.getElem?_map] at hx hy
   cases hk : ks[i]? with
   | none => rw [hk] at hx; cases hx
   | some k =>
    cases hk' : ks[j]? with
    | none => rw [hk'] at hy; cases hy
    | some k' =>
     rw [hk] at hx
     rw [hk'] at hy
     injection hx with hx
     injection hy with hy
     obtain ⟨hi, hk2⟩ := List.getElem?_eq_some_iff.1 hk
     obtain ⟨hj, hk3⟩ := List.getElem?_eq_some_iff.1 hk'
     rw [← hx] at hb
     rw [← hy]
     have hpw := List.pairwise_iff_getElem.1 apt2
     rcases Nat.lt_or_gt_of_ne hij with h1 | h1
     · have := hpw i j hi hj h1
       rw [hk2, hk3] at this
       exact this b hb
     · have := (hpw j i hj hi h1).symm
       rw [hk2, hk3] at this
       exact this b hb
theorem OwnV.rows {w0 w : World} {B : Nat} {v : Value} {hs ks : List Hdr} (h : OwnV B w0 w v ks) (own : ∀ k ∈ hs, Own w0 B k.val k.xs) (apt : hs.Pairwise Apt) {ls : List Hdr} (hp : ls.Perm hs) (hsub : ks.Sublist ls) : OwnS w B v (ks.map Hdr.xs) := by
 have apt2 : ks.Pairwise Apt := ((hp.pairwise_iff (fun a => Apt.symm a)).2 apt).sublist hsub
 refine OwnS.of_hdrs h.1 h.2.1 (fun k hk => (own k (hp.mem_iff.1 (hsub.mem hk))).grow h.2.2.2 ?_) apt2
 cases e : k.val.ownBlock with
 | none => exact .inl rfl
 | some b =>
  refine .inr fun e2 => ?_
  rcases ha : k.a with _ | p
  · rw [Hdr.val, ha] at e; cases e
  · rw [Hdr.val, ha] at e
    have : p.block = b := by injection e
    exact (h.2.2.1 k hk).2 p ha (by rw [this]; exact e2)
theorem sortV_own {B : Nat} {w0 w : World} {v : Value} {hs : List Hdr} (h : OwnV B w0 w v hs) :
    Calls Tryz.prog 94 #[v, .func (.func 67) #[] #[]] w fun e w' => e = .returned (.tuple #[]) ∧ ∃ ks : List Hdr, ks.Perm hs ∧ (ks.map Hdr.xs).Pairwise (fun a b => ¬ LtL b a) ∧ OwnV B w0 w' v ks ∧ w.grownBy w' v.ownBlock := by
 rcases h.form with ⟨rfl, rfl⟩ | ⟨g, c, rfl, hB, hg⟩
 · refine (AnyF.slices_SortFunc_none (P := Tryz.prog) (ρ := laySortL_ren) { laySortL with } Option.none 0 _ w).mono ?_
   rintro e w' ⟨rfl, rfl⟩
   exact ⟨rfl, [], List.Perm.refl _, .nil, h, World.grownBy.refl _ _⟩
 · have hl := h.1
   have hds0 : (List.range hs.length).toArray.size = hs.length := by simp
   have hH : Sort.Holds (fun i => (hdAt hs i).val) w g 0 (List.range hs.length).toArray := fun j hj => by
    rw [hds0] at hj
    have e : (List.range hs.length).toArray[j]! = j := by rw [getElem!_pos _ _ (by simpa using hj)]; simp
    refine ⟨?_, by rw [Nat.zero_add]; exact h.2.1.frozenAt j⟩
    rw [Nat.zero_add, h.2.1.cellAt j (by omega), List.getElem?_map, List.getElem?_eq_getElem hj, e]
    show some (Hdr.val hs[j]) = some (Hdr.val (hdAt hs j))
    rw [hdAt_lt hj]
   have hcmp : CmpReads Tryz.prog 67 #[] (fun i => (hdAt hs i).val) (fun i j => cmpL (hdAt hs i).xs (hdAt hs j).xs) g 0 (List.range hs.length).toArray.size w := fun m os dk _ x y => by
    have hgb := grownBy_grow (grownBy_putRow (fun i => (hdAt hs i).val) w g m dk) os
    refine (compareL_any _ _ _ _ _ _ _ ((h.rd x).1.grow (h.2.2.2.trans hgb) (h.rd x).2) ((h.rd y).1.grow (h.2.2.2.trans hgb) (h.rd y).2)).mono ?_
    rintro e w' ⟨rfl, rfl⟩
    exact ⟨rfl, 0, rfl⟩
   have eg : ∀ args w, (callFunc 67 args).run Tryz.prog w = .ok (.enter 67 args) w := enters_of Tryz.func67 (by kernel_rfl) rfl
   have key := Any.slices_SortFunc laySortL (fun i => (hdAt hs i).val) (fun _ => rfl) (fun i j => cmpL (hdAt hs i).xs (hdAt hs j).xs) (swoL hs) 67 #[] g 0 c (List.range hs.length).toArray w eg hcmp.lays hH hg (by rw [hds0]; omega)
   rw [hds0] at key
   refine key.mono ?_
   rintro e w' ⟨rfl, d, q, os, hp, hsd, rfl⟩
   have hds : d.size = hs.length := by simpa using hp.1
   have hperm : d.toList.Perm (List.range hs.length) := by
    have := hp.2.2
    rw [Array.extract_eq_self_of_le (by omega), Array.extract_eq_self_of_le (by simp)] at this
    simpa using this
   have hgb := grownBy_grow (grownBy_putRow (fun i => (hdAt hs i).val) w g q d) os
   have hmap : (List.range hs.length).map (hdAt hs) = hs := by
    refine List.ext_getElem (by simp) fun i h1 h2 => ?_
    rw [List.getElem_map, List.getElem_range, hdAt_lt h2]
   have hpk : (d.toList.map (hdAt hs)).Perm hs := by
    have := hperm.map (hdAt hs)
    rw [hmap] at this
    exact this
   refine ⟨rfl, d.toList.map (hdAt hs), hpk, ?_, ⟨by simpa [hds] using hl, ?_, fun k hk => h.2.2.1 k (hpk.mem_iff.1 hk), h.2.2.2.trans hgb⟩, hgb⟩
   · rw [List.map_map, List.pairwise_map, List.pairwise_iff_getElem]
     intro i j hi hj hij hlt
     have := hsd i j (Nat.zero_le _) hij (by simpa [hds] using hj)
     rw [ltOf, decide_eq_false_iff_not] at this
     refine this ?_
     simp only [Array.length_toList] at hi hj
     rw [getElem!_pos d j (by omega), getElem!_pos d i (by omega)]
     have h3 : LtL (hdAt hs d[j]).xs (hdAt hs d[i]).xs := by simpa using hlt
     exact h3
   · have hsl : d.toList.length = hs.length := by simpa using hds
     have e : hs.map Hdr.val = (List.range hs.length).map fun i => (hdAt hs i).val := by
      have := congrArg (List.map Hdr.val) hmap
      rw [List.map_map] at this
      exact this.symm
     have ho := ownsRow_putRow (q := q) (k := hs.length) (enc := fun i => (hdAt hs i).val) (zs := List.range hs.length) (ys := d.toList) (by rw [← e]; exact h.2.1) hsl (Nat.le_refl _)
     rw [List.take_of_length_le (by omega), Array.toArray_toList] at ho
     rw [List.length_map, hsl, List.map_map]
     exact ownsRow_below ho (below_grow _ os) (Nat.le_refl _)
end Go.Proofs.YtkiljcbejmiioaaGreat
namespace Go.Proofs.YtkiljcbejmiioaaGreat
open Go.RowKit
attribute [local go_sem ↓] Go.wp_at_zero Go.wp_at_succ
theorem compactV_any {B : Nat} {w0 : World} {g c : Nat} {es : List Hdr} {w : World} (h : OwnV B w0 w (.slice (some ⟨g, 0, none⟩) es.length c) es) (hcap : es.length ≤ c) :
    Calls Tryz.prog 95 #[(.slice (some ⟨g, 0, none⟩) es.length c), .func (.func 96) #[] #[]] w fun e w' => ∃ m, e = .returned (.slice (some ⟨g, 0, none⟩) m c) ∧ OwnV B w0 w' (.slice (some ⟨g, 0, none⟩) m c) (cmpct eqH es) ∧ w.grownBy w' (some g) := by
 have hl := h.1
 have HO := hide h
 have hcc : c ≤ 9223372036854775807 := by
  rcases h.2.1.2 with ⟨e, _⟩ | ⟨g', cap', cur, e, _, _, _, hm, _⟩
  · cases e
  · injection e with _ _ e
    unfold maxLen at hm
    omega
 clear h
 by_cases h2 : es.length < 2
 · have he : cmpct eqH es = es := by
     match es, h2 with
     | [], _ => rfl
     | [x], _ => rfl
     | _ :: _ :: _, h => exact absurd h (by simp)
   have HE := Lib.hid he
   clear he
   go_enter Tryz.func95, Tryz.ntmps95
   go_wp2
   go_ret
   exact ⟨_, rfl, by rw [HE.out]; exact unhide HO, World.grownBy.refl _ _⟩
 go_enter Tryz.func95, Tryz.ntmps95
 go_wp2_with fail
 go_loopw [5] (fun kv wr => ∃ k : Nat, kv = .int .i64 k ∧ 1 ≤ k ∧ k ≤ es.length ∧ Hid (OwnV B w0 wr (.slice (some ⟨g, 0, none⟩) es.length c) es) ∧ Hid (w.grownBy wr (some g)) ∧ Hid (cmpct eqH (es.take k) = es.take k)) (fun kv _ => es.length - (intOf kv).toNat)
 case atStart =>
  refine ⟨1, rfl, Nat.le_refl _, by omega, unhide HO, World.grownBy.refl _ _, ?_⟩
  show _ = _
  match es, h2 with
  | [], h => simp at h
  | x :: xs, _ => rfl
 case round =>
  obtain ⟨k, rfl, hk1, hk, ho, hgr, hq⟩ := hrel
  by_cases hkn : k < es.length
  · obtain ⟨m, rfl⟩ : ∃ m, k = m + 1 := ⟨k - 1, by omega⟩
    have c1 := ho.out.cell (j := m + 1) hkn
    have c0 := ho.out.cell (j := m) (by omega)
    have hw4 : IntKind.i64.wrap (m : Int) = (m : Int) := IntWalk.i64_in _ (by omega)
    have hml : m < es.length := by omega
    have i1 : 0 ≤ (m : Int) + 1 := by omega
    have i2 : (m : Int) + 1 < (es.length : Int) := by omega
    have i3 : (m : Int) < (es.length : Int) := by omega
    have r1 := ho.out.rdw (m + 1)
    have r0 := ho.out.rdw m
    obtain ⟨x, hx⟩ : ∃ x, x = hdAt es (m + 1) := ⟨_, rfl⟩
    obtain ⟨y, hy⟩ : ∃ y, y = hdAt es m := ⟨_, rfl⟩
    rw [← hx] at c1 r1
    rw [← hy] at c0 r0
    have c1 : wr.cell? ⟨g, m + 1, none⟩ = some (.slice x.a x.xs.length x.c) := c1
    have c0 : wr.cell? ⟨g, m, none⟩ = some (.slice y.a y.xs.length y.c) := c0
    have heq := fun W (hW : Qt wr W) => slicesEqual_any x.a y.a x.c y.c x.xs y.xs W (r1.below (hW.below _)) (r0.below (hW.below _))
    have key : ∀ W, Qt wr W → (W.cell? ⟨g, m + 1, none⟩ = some (.slice x.a x.xs.length x.c) ∧ W.cell? ⟨g, m, none⟩ = some (.slice y.a y.xs.length y.c) ∧ Qt wr W) := fun W hW => by
     obtain ⟨k, rfl⟩ := hW
     exact ⟨c1, c0, k, rfl⟩
    obtain ⟨bq, hbq⟩ : ∃ bq, bq = decide (x.xs = y.xs) := ⟨_, rfl⟩
    simp only [← hbq] at heq
    have HBQ := Lib.hid hbq
    have HEQ := hide heq
    have BX := hide key
    have HX := Lib.hid hx
    have HY := Lib.hid hy
    clear heq r1 r0 hx hy key hbq
    go_upto_region 6 with fail
    refine wp_region_noPanic ?_
    refine wp_region_seq (S := (fun W => W.cell? ⟨g, m + 1, none⟩ = some (.slice x.a x.xs.length x.c) ∧ W.cell? ⟨g, m, none⟩ = some (.slice y.a y.xs.length y.c) ∧ Qt wr W)) [true, true, true, true, true, true, true, true, true, true, false] (by kernel_rfl) (by kernel_rfl) (by kernel_rfl) rfl (fun _ _ _ _ _ h => h) ?_ (fun hHeld => ?_)
    · exact (unhide BX) _ ⟨1, rfl⟩
    simp only [List.toList_toArray]
    refine SeqH.take (v := ?hv1) (by rfl) ?hy1 ?hr1
    case hy1 =>
     intro w hSw
     try dsimp only at hSw
     go_simp
     try (with_reducible rfl)
    try simp only [Act.put, List.setIfInBounds_toArray, List.set_cons_zero, List.set_cons_succ]
    refine SeqH.take (v := ?hv2) (by rfl) ?hy2 ?hr2
    case hy2 =>
     intro w hSw
     try dsimp only at hSw
     go_simp
     try (with_reducible rfl)
    try simp only [Act.put, List.setIfInBounds_toArray, List.set_cons_zero, List.set_cons_succ]
    refine SeqH.take (v := ?hv3) (by rfl) ?hy3 ?hr3
    case hy3 =>
     intro w hSw
     try dsimp only at hSw
     go_simp
     try (with_reducible rfl)
    try simp only [Act.put, List.setIfInBounds_toArray, List.set_cons_zero, List.set_cons_succ]
    refine SeqH.take (v := ?hv4) (by rfl) ?hy4 ?hr4
    case hy4 =>
     intro w hSw
     try dsimp only at hSw
     go_simp
     try (with_reducible rfl)
    try simp only [Act.put, List.setIfInBounds_toArray, List.set_cons_zero, List.set_cons_succ]
    refine SeqH.take (v := ?hv5) (by rfl) ?hy5 ?hr5
    case hy5 =>
     intro w hSw
     try dsimp only at hSw
     go_simp
     try (with_reducible rfl)
    try simp only [Act.put, List.setIfInBounds_toArray, List.set_cons_zero, List.set_cons_succ]
    refine SeqH.take (v := ?hv6) (by rfl) ?hy6 ?hr6
    case hy6 =>
     intro w hSw
     try dsimp only at hSw
     go_simp
     try (with_reducible rfl)
    try simp only [Act.put, List.setIfInBounds_toArray, List.set_cons_zero, List.set_cons_succ]
    refine SeqH.take (v := ?hv7) (by rfl) ?hy7 ?hr7
    case hy7 =>
     intro w hSw
     try dsimp only at hSw
     go_simp
     try (with_reducible rfl)
    try simp only [Act.put, List.setIfInBounds_toArray, List.set_cons_zero, List.set_cons_succ]
    refine SeqH.take (v := ?hv8) (by rfl) ?hy8 ?hr8
    case hy8 =>
     intro w hSw
     try dsimp only at hSw
     go_simp
     try (with_reducible rfl)
    try simp only [Act.put, List.setIfInBounds_toArray, List.set_cons_zero, List.set_cons_succ]
    refine SeqH.take (v := ?hv9) (by rfl) ?hy9 ?hr9
    case hy9 =>
     intro w hSw
     try dsimp only at hSw
     go_simp
     try (with_reducible rfl)
    try simp only [Act.put, List.setIfInBounds_toArray, List.set_cons_zero, List.set_cons_succ]
    refine SeqH.take (v := ?hv10) (by rfl) ?hy10 ?hr10
    case hy10 =>
     intro w hSw
     try dsimp only at hSw
     go_simp
     try (with_reducible rfl)
    try simp only [Act.put, List.setIfInBounds_toArray, List.set_cons_zero, List.set_cons_succ]
    refine SeqH.call (fun K hK => ?_)
    go_simp
    refine ((unhide HEQ) _ (And.right (And.right hHeld))).mono ?_
    rintro e w5 ⟨rfl, q5⟩
    have d5 := Qt.trans (And.right (And.right hHeld)) q5
    clear hHeld
    refine hK.out _ _ ?_ (fun hHeld => ?_)
    · exact (unhide BX) _ d5
    clear hK K
    try simp only [Act.put, List.setIfInBounds_toArray, List.set_cons_zero, List.set_cons_succ]
    refine SeqH.done (NoPanic.normal ?_)
    cases bq with
    | true =>
     have he : x.xs = y.xs := of_decide_eq_true HBQ.out.symm
     have hsk := cmpctH_skip (es := es) (k := m + 1) (by omega) hkn (by rw [Nat.add_sub_cancel, ← HX.out, ← HY.out]; exact he)
     have HI := hide (show CmpH es es (m + 1 + 1) (m + 1) from ⟨rfl, by omega, by omega, by rw [hsk, hq.out], fun _ _ => rfl⟩)
     have O2 := hide (ho.out.qt d5)
     have G2 := hide (grownBy_qt hgr.out d5)
     have hkc : m + 1 < c := by omega
     have hkc2 : ¬ c = m + 1 := by omega
     clear hw4 c1 c0 he hsk
     go_wp2_with fail
     go_loopw [5, 7] (fun kv jv wr => ∃ (kk k2 : Nat) (ds : List Hdr), kv = .int .i64 kk ∧ jv = .int .i64 k2 ∧ 1 ≤ k2 ∧ m + 1 + k2 ≤ es.length ∧ Hid (OwnV B w0 wr (.slice (some ⟨g, 0, none⟩) es.length c) ds) ∧ Hid (CmpH es ds (m + 1 + k2) kk) ∧ Hid (w.grownBy wr (some g))) (fun _ jv _ => es.length - (intOf jv).toNat)
     case atStart => exact ⟨m + 1, 1, es, rfl, rfl, Nat.le_refl _, by omega, O2, HI, G2⟩
     case round =>
      obtain ⟨kk, k2, ds, rfl, rfl, hk2, hle, ho2, hI, hgr2⟩ := hrel
      have hkp := hI.out.kp
      have hdl := hI.out.len
      have HDL := Lib.hid hdl
      by_cases hlt : m + 1 + k2 < es.length
      · obtain ⟨j, rfl⟩ : ∃ j, k2 = j + 1 := ⟨k2 - 1, by omega⟩
        have hO := ho2.out
        have cc1 := hO.cell (j := m + 1 + (j + 1)) (by omega)
        have cc0 := hO.cell (j := m + 1 + j) (by omega)
        have ck := hO.cell (j := kk) (by omega)
        have fk := hO.frozen kk
        have r1 := hO.rdw (m + 1 + (j + 1))
        have r0 := hO.rdw (m + 1 + j)
        have rw0 := hO.rd (m + 1 + (j + 1))
        rw [hI.out.rest _ (by omega)] at cc1 cc0 r1 r0 rw0
        obtain ⟨x, hx⟩ : ∃ x, x = hdAt es (m + 1 + (j + 1)) := ⟨_, rfl⟩
        obtain ⟨y, hy⟩ : ∃ y, y = hdAt es (m + 1 + j) := ⟨_, rfl⟩
        rw [← hx] at cc1 r1 rw0
        rw [← hy] at cc0 r0
        have cc1 : wr.cell? ⟨g, m + 1 + (j + 1), none⟩ = some (.slice x.a x.xs.length x.c) := cc1
        have cc0 : wr.cell? ⟨g, m + 1 + j, none⟩ = some (.slice y.a y.xs.length y.c) := cc0
        have heq := fun W (hW : Qt wr W) => slicesEqual_any x.a y.a x.c y.c x.xs y.xs W (r1.below (hW.below _)) (r0.below (hW.below _))
        have key : ∀ W, Qt wr W → (W.cell? ⟨g, m + 1 + (j + 1), none⟩ = some (.slice x.a x.xs.length x.c) ∧ W.cell? ⟨g, m + 1 + j, none⟩ = some (.slice y.a y.xs.length y.c) ∧ Qt wr W) := fun W hW => by
         obtain ⟨k, rfl⟩ := hW
         exact ⟨cc1, cc0, k, rfl⟩
        obtain ⟨bq, hbq⟩ : ∃ bq, bq = decide (x.xs = y.xs) := ⟨_, rfl⟩
        simp only [← hbq] at heq
        have HBQ := Lib.hid hbq
        have HEQ := hide heq
        have BX := hide key
        have HX := Lib.hid hx
        have HY := Lib.hid hy
        have RW0 := hide rw0
        have hw4 : IntKind.i64.wrap (j : Int) = (j : Int) := IntWalk.i64_in _ (by omega)
        have hj1 : j + 1 < es.length - (m + 1) := by omega
        have hj0 : j < es.length - (m + 1) := by omega
        have i4 : 0 ≤ (j : Int) + 1 := by omega
        have i5 : (j : Int) + 1 < ((es.length - (m + 1) : Nat) : Int) := by omega
        have i6 : (j : Int) < ((es.length - (m + 1) : Nat) : Int) := by omega
        have hkl : kk < es.length := by omega
        clear heq r1 r0 hx hy key hbq hO hdl rw0
        go_upto_region 11 with fail
        refine wp_region_noPanic ?_
        refine wp_region_seq (S := (fun W => W.cell? ⟨g, m + 1 + (j + 1), none⟩ = some (.slice x.a x.xs.length x.c) ∧ W.cell? ⟨g, m + 1 + j, none⟩ = some (.slice y.a y.xs.length y.c) ∧ Qt wr W)) [true, true, true, true, true, true, true, true, true, true, false, true] (by kernel_rfl) (by kernel_rfl) (by kernel_rfl) rfl (fun _ _ _ _ _ h => h) ?_ (fun hHeld => ?_)
        · exact (unhide BX) _ ⟨1, rfl⟩
        simp only [List.toList_toArray]
        refine SeqH.take (v := ?hv11) (by rfl) ?hy11 ?hr11
        case hy11 =>
         intro w hSw
         try dsimp only at hSw
         go_simp
         try (with_reducible rfl)
        try simp only [Act.put, List.setIfInBounds_toArray, List.set_cons_zero, List.set_cons_succ]
        refine SeqH.take (v := ?hv12) (by rfl) ?hy12 ?hr12
        case hy12 =>
         intro w hSw
         try dsimp only at hSw
         go_simp
         try (with_reducible rfl)
        try simp only [Act.put, List.setIfInBounds_toArray, List.set_cons_zero, List.set_cons_succ]
        refine SeqH.take (v := ?hv13) (by rfl) ?hy13 ?hr13
        case hy13 =>
         intro w hSw
         try dsimp only at hSw
         go_simp
         try (with_reducible rfl)
        try simp only [Act.put, List.setIfInBounds_toArray, List.set_cons_zero, List.set_cons_succ]
        refine SeqH.take (v := ?hv14) (by rfl) ?hy14 ?hr14
        case hy14 =>
         intro w hSw
         try dsimp only at hSw
         go_simp
         try (with_reducible rfl)
        try simp only [Act.put, List.setIfInBounds_toArray, List.set_cons_zero, List.set_cons_succ]
        refine SeqH.take (v := ?hv15) (by rfl) ?hy15 ?hr15
        case hy15 =>
         intro w hSw
         try dsimp only at hSw
         go_simp
         try (with_reducible rfl)
        try simp only [Act.put, List.setIfInBounds_toArray, List.set_cons_zero, List.set_cons_succ]
        refine SeqH.take (v := ?hv16) (by rfl) ?hy16 ?hr16
        case hy16 =>
         intro w hSw
         try dsimp only at hSw
         go_simp
         try (with_reducible rfl)
        try simp only [Act.put, List.setIfInBounds_toArray, List.set_cons_zero, List.set_cons_succ]
        refine SeqH.take (v := ?hv17) (by rfl) ?hy17 ?hr17
        case hy17 =>
         intro w hSw
         try dsimp only at hSw
         go_simp
         try (with_reducible rfl)
        try simp only [Act.put, List.setIfInBounds_toArray, List.set_cons_zero, List.set_cons_succ]
        refine SeqH.take (v := ?hv18) (by rfl) ?hy18 ?hr18
        case hy18 =>
         intro w hSw
         try dsimp only at hSw
         go_simp
         try (with_reducible rfl)
        try simp only [Act.put, List.setIfInBounds_toArray, List.set_cons_zero, List.set_cons_succ]
        refine SeqH.take (v := ?hv19) (by rfl) ?hy19 ?hr19
        case hy19 =>
         intro w hSw
         try dsimp only at hSw
         go_simp
         try (with_reducible rfl)
        try simp only [Act.put, List.setIfInBounds_toArray, List.set_cons_zero, List.set_cons_succ]
        refine SeqH.take (v := ?hv20) (by rfl) ?hy20 ?hr20
        case hy20 =>
         intro w hSw
         try dsimp only at hSw
         go_simp
         try (with_reducible rfl)
        try simp only [Act.put, List.setIfInBounds_toArray, List.set_cons_zero, List.set_cons_succ]
        refine SeqH.call (fun K hK => ?_)
        go_simp
        refine ((unhide HEQ) _ (And.right (And.right hHeld))).mono ?_
        rintro e w5 ⟨rfl, q5⟩
        have d5 := Qt.trans (And.right (And.right hHeld)) q5
        clear hHeld
        refine hK.out _ _ ?_ (fun hHeld => ?_)
        · exact (unhide BX) _ d5
        clear hK K
        try simp only [Act.put, List.setIfInBounds_toArray, List.set_cons_zero, List.set_cons_succ]
        refine SeqH.take (v := ?hv21) (by rfl) ?hy21 ?hr21
        case hy21 =>
         intro w hSw
         try dsimp only at hSw
         go_simp
         try (with_reducible rfl)
        try simp only [Act.put, List.setIfInBounds_toArray, List.set_cons_zero, List.set_cons_succ]
        refine SeqH.done (NoPanic.normal ?_)
        cases bq with
        | true =>
         have he : x.xs = y.xs := of_decide_eq_true HBQ.out.symm
         have HI2 := hide (hI.out.skip (p := m + 1 + (j + 1)) hlt (by rw [show m + 1 + (j + 1) - 1 = m + 1 + j by omega, ← HX.out, ← HY.out]; exact he))
         clear he
         go_wp2_with fail
         go_roundw
         case rel => exact ⟨kk, j + 1 + 1, ds, rfl, by go_num, by omega, by omega, ho2.out.qt d5, by have h := unhide HI2; exact h, grownBy_qt hgr2.out d5⟩
         case measure => simp only [intOf]; omega
        | false =>
         have he : ¬ x.xs = y.xs := of_decide_eq_false HBQ.out.symm
         have hkp2 := hI.out.keep (p := m + 1 + (j + 1)) hlt (by rw [show m + 1 + (j + 1) - 1 = m + 1 + j by omega, ← HX.out, ← HY.out]; exact he)
         rw [← HX.out] at hkp2
         have HI2 := hide hkp2
         have cx := ((unhide BX) _ d5).1
         have hO5 := ho2.out.qt d5
         have ckk := hO5.cell (j := kk) (by rw [HDL.out]; exact hkl)
         have fkk := hO5.frozen kk
         rw [← HDL.out] at hO5
         have hs := hO5.set kk (k := x) (unhide RW0)
         rw [HDL.out] at hs
         have HS := hide hs
         clear he hkp2 hs hO5
         go_wp2_with fail
         go_roundw
         case rel => exact ⟨kk + 1, j + 1 + 1, ds.set kk x, by go_num, by go_num, by omega, by omega, (unhide HS).1, unhide HI2, grown_trans_row (grownBy_qt hgr2.out d5) (unhide HS).2⟩
         case measure => simp only [intOf]; omega
      · have hend : m + 1 + k2 = es.length := by omega
        have hdn := hI.out.done
        rw [hend, List.take_length] at hdn
        have hkl : kk < es.length := by omega
        have hO := ho2.out
        have hcl : ∀ ty, (Builtin.clear_ #[24] ty #[.slice (some ⟨g, kk, none⟩) (es.length - kk) (c - kk)]).run Tryz.prog wr = .ok (.tuple #[]) (wr.setCells g kk (Builtin.zeroCells #[.slice none 0 0] (es.length - kk)).toList) := fun ty => run_clear_hdrs wr ty g kk (es.length - kk) (c - kk) (by omega) (fun j hj => by rw [hO.cell (j := kk + j) (by omega)]; rfl) (fun j _ => hO.frozen _)
        rw [← HDL.out] at hO
        have hfin := OwnV.clear (vs := (Builtin.zeroCells #[.slice none 0 0] (es.length - kk)).toList) hO (show kk ≤ ds.length by omega)
        rw [hdn] at hfin
        have FIN := hide hfin
        have hkc3 : kk < c := by omega
        have hkc4 : ¬ c = kk := by omega
        clear hfin hdn hdl hend hO
        go_wp2_with fail
        go_ret
        exact ⟨_, rfl, (unhide FIN).1, grown_trans_row hgr2.out (unhide FIN).2⟩
    | false =>
     have he : ¬ x.xs = y.xs := of_decide_eq_false HBQ.out.symm
     have hkp := cmpctH_keep (es := es) (k := m + 1) (by omega) hkn (by rw [Nat.add_sub_cancel, ← HX.out, ← HY.out]; exact he)
     have hq2 : cmpct eqH (es.take (m + 1 + 1)) = es.take (m + 1 + 1) := by rw [hkp, hq.out, ← takeH hkn]
     have HQ := hide hq2
     clear he hkp hq2
     go_wp2_with fail
     go_roundw
     case rel => exact ⟨m + 1 + 1, by go_num, by omega, by omega, ho.out.qt d5, grownBy_qt hgr.out d5, unhide HQ⟩
     case measure => simp only [intOf]; omega
  · have hke : k = es.length := by omega
    have hq2 := hq.out
    rw [hke, List.take_length] at hq2
    have HQ := Lib.hid hq2
    clear hq2 hke
    go_wp2_with fail
    go_ret
    exact ⟨_, rfl, by rw [HQ.out]; exact ho.out, hgr.out⟩
end Go.Proofs.YtkiljcbejmiioaaGreat
namespace Go.Proofs.YtkiljcbejmiioaaGreat
open Go.RowKit
theorem wpList_append_hdrsG {w : World} {ops : Array Oper} {rest : List Oper} {o : Oper} {a : Act} {Q : Exit → Act → World → Prop} (hgd : o.guard = none) (s x : Operand)
    (ho : o.op = .call { callee := .builtin .append, args := #[s, x], argTypes := #[24, 24] }) {B n : Nat} {v : Value} {vs : List Value} (hs : a.eval s = v) (hown : w.ownsRow B 28 1 v n vs) (hv : v ≠ .slice none 0 0)
    (b off m c : Nat) (news : List Hdr) (hx : a.eval x = .slice (some ⟨b, off, none⟩) m c) (hl : news.length = m) (hc : ∀ j, j < m → w.cell? ⟨b, off + j, none⟩ = some (hdAt news j).val) (hn : n + m ≤ 1000000) (hB : B ≤ w.heap.size)
    (h : ∀ v' w', w'.ownsRow B 28 1 v' (n + m) (vs ++ news.map Hdr.val) → v' ≠ .slice none 0 0 → w.grownBy w' v.ownBlock → (v'.ownBlock = v.ownBlock ∨ v'.ownBlock = some w.heap.size) → wpList Tryz.prog ops Q rest (a.put o.dst v') w') :
    wpList Tryz.prog ops Q (o :: rest) a w := by
 obtain ⟨i0, hi0, hz0, hz1, hz2⟩ := info_parts Tryz.info_row
 refine wpList_append_own_at w hgd s x 24 ho B 28 i0 (.slice none 0 0) 1 24 Tryz.underlying24 hi0 hz0 hz1 hz2 rfl (by omega) v n vs hs hown ⟨b, off, none⟩ m c (news.map Hdr.val) hx (by rw [List.length_map]; omega) (fun j u hu => ?_) (fun u hu => ?_) (by unfold maxLen; omega) (by omega) hB ?_
 · rw [List.getElem?_map] at hu
   have hj : j < m := by
    rcases Nat.lt_or_ge j news.length with h1 | h1
    · omega
    · rw [List.getElem?_eq_none h1] at hu; cases hu
   rw [List.getElem?_eq_getElem (by omega)] at hu
   injection hu with hu
   rw [Addr.add_lit, hc j hj, hdAt_lt (by omega), hu]
 · obtain ⟨k, _, rfl⟩ := List.mem_map.1 hu
   rfl
 · intro v' w' h1 h2 h3 h4
   exact h v' w' h1 (fun e => hv (h3.1 e).1) h2 h4
end Go.Proofs.YtkiljcbejmiioaaGreat
