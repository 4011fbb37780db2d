/-
  Texts joined.
-/
import Derived.Test.YtgfcbmflnldicaaGreatRF1
import Derived.Test.YtgfcbmflnldicaaGreatRF6
import Derived.Test.YtgfcbmflnldicaaGreatRF17
import Derived.Test.YtgfcbmflnldicaaGreatRF20
import Derived.Test.YtgfcbmflnldicaaGreatRF21
set_option linter.unusedVariables false
set_option linter.unusedSimpArgs false
set_option maxRecDepth 100000
set_option maxHeartbeats 40000000
namespace Go.Proofs.YtgfcbmflnldicaaGreat
open Go.RowKit
def eqH (h k : Hdr) : Bool := decide (h.xs = k.xs)
theorem cmpctFrom_map : ∀ (x : Hdr) (ys : List Hdr), (cmpctFrom eqH x ys).map Hdr.xs = cmpctFrom eqL x.xs (ys.map Hdr.xs)
 | _, [] => rfl
 | x, y :: ys => by
  rw [List.map_cons, cmpctFrom, cmpctFrom]
  by_cases h : eqH y x = true
  · have h2 : eqL y.xs x.xs = true := h
    rw [if_pos h, if_pos h2]; exact cmpctFrom_map y ys
  · have h2 : ¬ eqL y.xs x.xs = true := h
    rw [if_neg h, if_neg h2, List.map_cons, cmpctFrom_map y ys]
theorem cmpct_map (hs : List Hdr) : (cmpct eqH hs).map Hdr.xs = cmpct eqL (hs.map Hdr.xs) := by
 cases hs with
 | nil => rfl
 | cons x ys => rw [cmpct, List.map_cons, List.map_cons, cmpct, cmpctFrom_map]
theorem lastH {es : List Hdr} {k : Nat} (hk : 0 < k) (hl : k < es.length) (hne : es.take k ≠ []) : (es.take k).getLast hne = hdAt es (k - 1) := by
 rw [List.getLast_eq_getElem, List.getElem_take, hdAt_lt (i := k - 1) (by omega)]
 congr 1
 rw [List.length_take]; omega
theorem takeH {es : List Hdr} {k : Nat} (h : k < es.length) : es.take (k + 1) = es.take k ++ [hdAt es k] := by
 rw [List.take_add_one, hdAt_lt h, List.getElem?_eq_getElem h]; rfl
theorem takeH_ne {es : List Hdr} {k : Nat} (hk : 0 < k) (hl : k < es.length) : es.take k ≠ [] := by
 intro e
 have := congrArg List.length e
 rw [List.length_take, List.length_nil] at this
 omega
theorem cmpctH_skip {es : List Hdr} {k : Nat} (hk : 0 < k) (hl : k < es.length) (h : (hdAt es k).xs = (hdAt es (k - 1)).xs) : cmpct eqH (es.take (k + 1)) = cmpct eqH (es.take k) := by
 have hne := takeH_ne hk hl
 rw [takeH hl, cmpct_snoc _ _ hne, lastH hk hl hne]
 simp [eqH, h]
theorem cmpctH_keep {es : List Hdr} {k : Nat} (hk : 0 < k) (hl : k < es.length) (h : (hdAt es k).xs ≠ (hdAt es (k - 1)).xs) : cmpct eqH (es.take (k + 1)) = cmpct eqH (es.take k) ++ [hdAt es k] := by
 have hne := takeH_ne hk hl
 rw [takeH hl, cmpct_snoc _ _ hne, lastH hk hl hne]
 simp [eqH, h]
theorem hdAt_set_ne {es : List Hdr} {i j : Nat} (h : i ≠ j) (e : Hdr) : hdAt (es.set i e) j = hdAt es j := by
 simp [hdAt, List.getD_eq_getElem?_getD, List.getElem?_set_ne h]
theorem takeH_set {ds : List Hdr} {kk : Nat} (h : kk < ds.length) (e : Hdr) : (ds.set kk e).take (kk + 1) = ds.take kk ++ [e] := by
 rw [List.take_add_one, List.take_set_of_le (Nat.le_refl _)]
 simp [h]
structure CmpH (es ds : List Hdr) (p kk : Nat) : Prop where
 len : ds.length = es.length
 kp : kk < p
 pl : p ≤ es.length
 done : ds.take kk = cmpct eqH (es.take p)
 rest : ∀ i, p - 1 ≤ i → hdAt ds i = hdAt es i
theorem CmpH.skip {es ds : List Hdr} {p kk : Nat} (h : CmpH es ds p kk) (hp : p < es.length) (e : (hdAt es p).xs = (hdAt es (p - 1)).xs) : CmpH es ds (p + 1) kk :=
 ⟨h.len, by have := h.kp; omega, by omega, by rw [cmpctH_skip (by have := h.kp; omega) hp e]; exact h.done, fun i hi => h.rest i (by omega)⟩
theorem CmpH.keep {es ds : List Hdr} {p kk : Nat} (h : CmpH es ds p kk) (hp : p < es.length) (e : (hdAt es p).xs ≠ (hdAt es (p - 1)).xs) : CmpH es (ds.set kk (hdAt es p)) (p + 1) (kk + 1) := by
 have h1 := h.kp
 have h2 := h.len
 refine ⟨by rw [List.length_set]; exact h2, by omega, by omega, ?_, fun i hi => ?_⟩
 · rw [takeH_set (by omega), h.done, cmpctH_keep (by omega) hp e]
 · rw [hdAt_set_ne (by omega)]
   exact h.rest i (by omega)
section
variable {w0 w w' : World} {v : Value} {hs : List Hdr}
theorem OwnR.cell {g n c : Nat} (h : OwnR w0 w (.slice (some ⟨g, 0, Option.none⟩) n c) hs) {j : Nat} (hj : j < hs.length) : w.cell? ⟨g, j, Option.none⟩ = some (hdAt hs j).val := by
 rcases h.form with ⟨e, _⟩ | ⟨g', c', e, _⟩
 · cases e
 · injection e with e1 e2 e3
   injection e1 with e1
   injection e1 with e1
   subst e1
   subst e2
   subst e3
   rw [h.2.1.cellAt j (by omega), List.getElem?_map, List.getElem?_eq_getElem hj, hdAt_lt hj]; rfl
theorem OwnR.frozen {g n c : Nat} (h : OwnR w0 w (.slice (some ⟨g, 0, Option.none⟩) n c) hs) (j : Nat) : w.frozen? ⟨g, j, Option.none⟩ = false := by
 rcases h.form with ⟨e, _⟩ | ⟨g', c', e, _⟩
 · cases e
 · injection e with e1 e2 e3
   injection e1 with e1
   injection e1 with e1
   subst e1
   subst e2
   subst e3
   exact h.2.1.frozenAt j
theorem OwnR.set {g c : Nat} (h : OwnR w0 w (.slice (some ⟨g, 0, Option.none⟩) hs.length c) hs) (j : Nat) {k : Hdr} (hk : Rd w0 k.a k.xs) :
    OwnR w0 (w.setCell ⟨g, j, Option.none⟩ k.val) (.slice (some ⟨g, 0, Option.none⟩) hs.length c) (hs.set j k) ∧ w.grownBy (w.setCell ⟨g, j, Option.none⟩ k.val) (some g) := by
 obtain ⟨hl, hr, hd, hb⟩ := h
 have hB := (hr.lt g rfl).1
 obtain ⟨h1, h2⟩ := hr.stored j k.val
 refine ⟨⟨by simpa using hl, ?_, fun x hx => ?_, hb.setCell (by show w0.heap.size ≤ g; omega) _⟩, h2⟩
 · rw [List.map_set, List.length_set]; exact h1
 · rcases List.mem_or_eq_of_mem_set hx with h3 | rfl
   · exact hd x h3
   · exact hk
end
end Go.Proofs.YtgfcbmflnldicaaGreat
namespace Go.Proofs.YtgfcbmflnldicaaGreat
open Go.RowKit
attribute [local go_sem ↓] Go.wp_at_zero Go.wp_at_succ
theorem OwnR.qt {w0 w w' : World} {v : Value} {hs : List Hdr} (h : OwnR w0 w v hs) (q : Qt w w') : OwnR w0 w' v hs := by
 obtain ⟨k, rfl⟩ := q
 exact ⟨h.1, h.2.1, h.2.2.1, h.2.2.2.trans (Qt.below ⟨k, rfl⟩ _)⟩
theorem grownBy_qt {w a b : World} {row : Option Nat} (h : w.grownBy a row) (q : Qt a b) : w.grownBy b row := by
 obtain ⟨k, rfl⟩ := q
 exact ⟨h.os, h.tape, h.output, h.size, h.block⟩
theorem run_clear_hdrs (w : World) (ty : TypeId) (b o n c : Nat) (hn : 0 < n) (hc : ∀ j, j < n → (w.cell? ⟨b, o + j, none⟩).isSome = true) (hf : ∀ j, j < n → w.frozen? ⟨b, o + j, none⟩ = false) :
    (Builtin.clear_ #[42] ty #[.slice (some ⟨b, o, none⟩) n c]).run Tryz.prog w = .ok (.tuple #[]) (w.setCells b o (Builtin.zeroCells #[.slice none 0 0] n).toList) := by
 have hlen : (Builtin.zeroCells #[.slice none 0 0] n).toList.length = n := by simp [Builtin.zeroCells]
 have hv := Tryz.zeroValue24
 have hst := run_storeCells_cells (P := Tryz.prog) b o (Builtin.zeroCells #[.slice none 0 0] n).toList 0 w (by rw [hlen]; simpa using hc) (by rw [hlen]; simpa using hf) (by
  intro v hv'
  simp [Builtin.zeroCells] at hv'
  obtain ⟨i, hi, rfl⟩ := hv'
  simp [Value.oneCell', Nat.mod_one])
 simp only [Nat.add_zero] at hst
 obtain ⟨m, rfl⟩ : ∃ m, n = m + 1 := ⟨n - 1, by omega⟩
 simp [Builtin.clear_, run_underlying Tryz.underlying42, hv, hst, Value.cells]
theorem OwnR.clear {w0 w : World} {g c m : Nat} {es : List Hdr} {vs : List Value} (h : OwnR w0 w (.slice (some ⟨g, 0, none⟩) es.length c) es) (hm : m ≤ es.length) :
    OwnR w0 (w.setCells g m vs) (.slice (some ⟨g, 0, none⟩) m c) (es.take m) ∧ w.grownBy (w.setCells g m vs) (some g) := by
 obtain ⟨hl, hr, hd, hb⟩ := h
 have hB := (hr.lt g rfl).1
 obtain ⟨L', a1, a2, a3⟩ := ownsRow_setCells vs m w _ hr
 have hc := ownsRow_cut a1 hm
 have e : L'.take (m * 1) = (es.take m).map Hdr.val := by
  rw [List.map_take]
  apply List.ext_getElem?
  intro j
  rw [List.getElem?_take, List.getElem?_take, Nat.mul_one]
  split
  · exact a2 j (by omega)
  · rfl
 rw [e] at hc
 have hml : (es.take m).length = m := by rw [List.length_take]; omega
 exact ⟨⟨by omega, by rw [hml]; exact hc, fun x hx => hd x (List.mem_of_mem_take hx), hb.grown a3 hb.size (fun q hq => by injection hq with hq; omega)⟩, a3⟩
theorem compactR_any {w0 : World} {g c : Nat} {es : List Hdr} {w : World} (h : OwnR w0 w (.slice (some ⟨g, 0, none⟩) es.length c) es) (hcap : es.length ≤ c) :
    Calls Tryz.prog 120 #[(.slice (some ⟨g, 0, none⟩) es.length c), .func (.func 121) #[] #[]] w fun e w' => ∃ m, e = .returned (.slice (some ⟨g, 0, none⟩) m c) ∧ OwnR w0 w' (.slice (some ⟨g, 0, none⟩) m c) (cmpct eqH es) ∧ w.grownBy w' (some g) := by
 have hl := h.1
 have HO := hide h
 have hcc : c ≤ 9223372036854775807 := by
  rcases h.2.1.2 with ⟨e, _⟩ | ⟨g', cap', cur, e, _, _, _, hm, _⟩
  · cases e
  · injection e with _ _ e
    unfold maxLen at hm
    omega
 clear h
 by_cases h2 : es.length < 2
 · have he : cmpct eqH es = es := by
     match es, h2 with
     | [], _ => rfl
     | [x], _ => rfl
     | _ :: _ :: _, h => exact absurd h (by simp)
   have HE := Lib.hid he
   clear he
   go_enter Tryz.func120, Tryz.ntmps120
   go_wp2
   go_ret
   exact ⟨_, rfl, by rw [HE.out]; exact unhide HO, World.grownBy.refl _ _⟩
 go_enter Tryz.func120, Tryz.ntmps120
 go_wp2_with fail
 go_loopw [5] (fun kv wr => ∃ k : Nat, kv = .int .i64 k ∧ 1 ≤ k ∧ k ≤ es.length ∧ Hid (OwnR w0 wr (.slice (some ⟨g, 0, none⟩) es.length c) es) ∧ Hid (w.grownBy wr (some g)) ∧ Hid (cmpct eqH (es.take k) = es.take k)) (fun kv _ => es.length - (intOf kv).toNat)
 case atStart =>
  refine ⟨1, rfl, Nat.le_refl _, by omega, unhide HO, World.grownBy.refl _ _, ?_⟩
  show _ = _
  match es, h2 with
  | [], h => simp at h
  | x :: xs, _ => rfl
 case round =>
  obtain ⟨k, rfl, hk1, hk, ho, hgr, hq⟩ := hrel
  by_cases hkn : k < es.length
  · obtain ⟨m, rfl⟩ : ∃ m, k = m + 1 := ⟨k - 1, by omega⟩
    have c1 := ho.out.cell (j := m + 1) hkn
    have c0 := ho.out.cell (j := m) (by omega)
    have hw4 : IntKind.i64.wrap (m : Int) = (m : Int) := IntWalk.i64_in _ (by omega)
    have hml : m < es.length := by omega
    have i1 : 0 ≤ (m : Int) + 1 := by omega
    have i2 : (m : Int) + 1 < (es.length : Int) := by omega
    have i3 : (m : Int) < (es.length : Int) := by omega
    have r1 := (ho.out.rd (m + 1)).below ho.out.2.2.2
    have r0 := (ho.out.rd m).below ho.out.2.2.2
    obtain ⟨x, hx⟩ : ∃ x, x = hdAt es (m + 1) := ⟨_, rfl⟩
    obtain ⟨y, hy⟩ : ∃ y, y = hdAt es m := ⟨_, rfl⟩
    rw [← hx] at c1 r1
    rw [← hy] at c0 r0
    have c1 : wr.cell? ⟨g, m + 1, none⟩ = some (.slice x.a x.xs.length x.c) := c1
    have c0 : wr.cell? ⟨g, m, none⟩ = some (.slice y.a y.xs.length y.c) := c0
    have heq := fun W (hW : Qt wr W) => slicesEqual_any x.a y.a x.c y.c x.xs y.xs W (r1.below (hW.below _)) (r0.below (hW.below _))
    have key : ∀ W, Qt wr W → (W.cell? ⟨g, m + 1, none⟩ = some (.slice x.a x.xs.length x.c) ∧ W.cell? ⟨g, m, none⟩ = some (.slice y.a y.xs.length y.c) ∧ Qt wr W) := fun W hW => by
     obtain ⟨k, rfl⟩ := hW
     exact ⟨c1, c0, k, rfl⟩
    obtain ⟨bq, hbq⟩ : ∃ bq, bq = decide (x.xs = y.xs) := ⟨_, rfl⟩
    simp only [← hbq] at heq
    have HBQ := Lib.hid hbq
    have HEQ := hide heq
    have BX := hide key
    have HX := Lib.hid hx
    have HY := Lib.hid hy
    clear heq r1 r0 hx hy key hbq
    go_upto_region 6 with fail
    refine wp_region_noPanic ?_
    refine wp_region_seq (S := (fun W => W.cell? ⟨g, m + 1, none⟩ = some (.slice x.a x.xs.length x.c) ∧ W.cell? ⟨g, m, none⟩ = some (.slice y.a y.xs.length y.c) ∧ Qt wr W)) [true, true, true, true, true, true, true, true, true, true, false] (by kernel_rfl) (by kernel_rfl) (by kernel_rfl) rfl (fun _ _ _ _ _ h => h) ?_ (fun hHeld => ?_)
    · exact (unhide BX) _ ⟨1, rfl⟩
    simp only [List.toList_toArray]
    refine SeqH.take (v := ?hv1) (by rfl) ?hy1 ?hr1
    case hy1 =>
     intro w hSw
     try dsimp only at hSw
     go_simp
     try (with_reducible rfl)
    try simp only [Act.put, List.setIfInBounds_toArray, List.set_cons_zero, List.set_cons_succ]
    refine SeqH.take (v := ?hv2) (by rfl) ?hy2 ?hr2
    case hy2 =>
     intro w hSw
     try dsimp only at hSw
     go_simp
     try (with_reducible rfl)
    try simp only [Act.put, List.setIfInBounds_toArray, List.set_cons_zero, List.set_cons_succ]
    refine SeqH.take (v := ?hv3) (by rfl) ?hy3 ?hr3
    case hy3 =>
     intro w hSw
     try dsimp only at hSw
     go_simp
     try (with_reducible rfl)
    try simp only [Act.put, List.setIfInBounds_toArray, List.set_cons_zero, List.set_cons_succ]
    refine SeqH.take (v := ?hv4) (by rfl) ?hy4 ?hr4
    case hy4 =>
     intro w hSw
     try dsimp only at hSw
     go_simp
     try (with_reducible rfl)
    try simp only [Act.put, List.setIfInBounds_toArray, List.set_cons_zero, List.set_cons_succ]
    refine SeqH.take (v := ?hv5) (by rfl) ?hy5 ?hr5
    case hy5 =>
     intro w hSw
     try dsimp only at hSw
     go_simp
     try (with_reducible rfl)
    try simp only [Act.put, List.setIfInBounds_toArray, List.set_cons_zero, List.set_cons_succ]
    refine SeqH.take (v := ?hv6) (by rfl) ?hy6 ?hr6
    case hy6 =>
     intro w hSw
     try dsimp only at hSw
     go_simp
     try (with_reducible rfl)
    try simp only [Act.put, List.setIfInBounds_toArray, List.set_cons_zero, List.set_cons_succ]
    refine SeqH.take (v := ?hv7) (by rfl) ?hy7 ?hr7
    case hy7 =>
     intro w hSw
     try dsimp only at hSw
     go_simp
     try (with_reducible rfl)
    try simp only [Act.put, List.setIfInBounds_toArray, List.set_cons_zero, List.set_cons_succ]
    refine SeqH.take (v := ?hv8) (by rfl) ?hy8 ?hr8
    case hy8 =>
     intro w hSw
     try dsimp only at hSw
     go_simp
     try (with_reducible rfl)
    try simp only [Act.put, List.setIfInBounds_toArray, List.set_cons_zero, List.set_cons_succ]
    refine SeqH.take (v := ?hv9) (by rfl) ?hy9 ?hr9
    case hy9 =>
     intro w hSw
     try dsimp only at hSw
     go_simp
     try (with_reducible rfl)
    try simp only [Act.put, List.setIfInBounds_toArray, List.set_cons_zero, List.set_cons_succ]
    refine SeqH.take (v := ?hv10) (by rfl) ?hy10 ?hr10
    case hy10 =>
     intro w hSw
     try dsimp only at hSw
     go_simp
     try (with_reducible rfl)
    try simp only [Act.put, List.setIfInBounds_toArray, List.set_cons_zero, List.set_cons_succ]
    refine SeqH.call (fun K hK => ?_)
    go_simp
    refine ((unhide HEQ) _ (And.right (And.right hHeld))).mono ?_
    rintro e w5 ⟨rfl, q5⟩
    have d5 := Qt.trans (And.right (And.right hHeld)) q5
    clear hHeld
    refine hK.out _ _ ?_ (fun hHeld => ?_)
    · exact (unhide BX) _ d5
    clear hK K
    try simp only [Act.put, List.setIfInBounds_toArray, List.set_cons_zero, List.set_cons_succ]
    refine SeqH.done (NoPanic.normal ?_)
    cases bq with
    | true =>
     have he : x.xs = y.xs := of_decide_eq_true HBQ.out.symm
     have hsk := cmpctH_skip (es := es) (k := m + 1) (by omega) hkn (by rw [Nat.add_sub_cancel, ← HX.out, ← HY.out]; exact he)
     have HI := hide (show CmpH es es (m + 1 + 1) (m + 1) from ⟨rfl, by omega, by omega, by rw [hsk, hq.out], fun _ _ => rfl⟩)
     have O2 := hide (ho.out.qt d5)
     have G2 := hide (grownBy_qt hgr.out d5)
     have hkc : m + 1 < c := by omega
     have hkc2 : ¬ c = m + 1 := by omega
     clear hw4 c1 c0 he hsk
     go_wp2_with fail
     go_loopw [5, 7] (fun kv jv wr => ∃ (kk k2 : Nat) (ds : List Hdr), kv = .int .i64 kk ∧ jv = .int .i64 k2 ∧ 1 ≤ k2 ∧ m + 1 + k2 ≤ es.length ∧ Hid (OwnR w0 wr (.slice (some ⟨g, 0, none⟩) es.length c) ds) ∧ Hid (CmpH es ds (m + 1 + k2) kk) ∧ Hid (w.grownBy wr (some g))) (fun _ jv _ => es.length - (intOf jv).toNat)
     case atStart => exact ⟨m + 1, 1, es, rfl, rfl, Nat.le_refl _, by omega, O2, HI, G2⟩
     case round =>
      obtain ⟨kk, k2, ds, rfl, rfl, hk2, hle, ho2, hI, hgr2⟩ := hrel
      have hkp := hI.out.kp
      have hdl := hI.out.len
      have HDL := Lib.hid hdl
      by_cases hlt : m + 1 + k2 < es.length
      · obtain ⟨j, rfl⟩ : ∃ j, k2 = j + 1 := ⟨k2 - 1, by omega⟩
        have hO := ho2.out
        have cc1 := hO.cell (j := m + 1 + (j + 1)) (by omega)
        have cc0 := hO.cell (j := m + 1 + j) (by omega)
        have ck := hO.cell (j := kk) (by omega)
        have fk := hO.frozen kk
        have r1 := (hO.rd (m + 1 + (j + 1))).below hO.2.2.2
        have r0 := (hO.rd (m + 1 + j)).below hO.2.2.2
        have rw0 := hO.rd (m + 1 + (j + 1))
        rw [hI.out.rest _ (by omega)] at cc1 cc0 r1 r0 rw0
        obtain ⟨x, hx⟩ : ∃ x, x = hdAt es (m + 1 + (j + 1)) := ⟨_, rfl⟩
        obtain ⟨y, hy⟩ : ∃ y, y = hdAt es (m + 1 + j) := ⟨_, rfl⟩
        rw [← hx] at cc1 r1 rw0
        rw [← hy] at cc0 r0
        have cc1 : wr.cell? ⟨g, m + 1 + (j + 1), none⟩ = some (.slice x.a x.xs.length x.c) := cc1
        have cc0 : wr.cell? ⟨g, m + 1 + j, none⟩ = some (.slice y.a y.xs.length y.c) := cc0
        have heq := fun W (hW : Qt wr W) => slicesEqual_any x.a y.a x.c y.c x.xs y.xs W (r1.below (hW.below _)) (r0.below (hW.below _))
        have key : ∀ W, Qt wr W → (W.cell? ⟨g, m + 1 + (j + 1), none⟩ = some (.slice x.a x.xs.length x.c) ∧ W.cell? ⟨g, m + 1 + j, none⟩ = some (.slice y.a y.xs.length y.c) ∧ Qt wr W) := fun W hW => by
         obtain ⟨k, rfl⟩ := hW
         exact ⟨cc1, cc0, k, rfl⟩
        obtain ⟨bq, hbq⟩ : ∃ bq, bq = decide (x.xs = y.xs) := ⟨_, rfl⟩
        simp only [← hbq] at heq
        have HBQ := Lib.hid hbq
        have HEQ := hide heq
        have BX := hide key
        have HX := Lib.hid hx
        have HY := Lib.hid hy
        have RW0 := hide rw0
        have hw4 : IntKind.i64.wrap (j : Int) = (j : Int) := IntWalk.i64_in _ (by omega)
        have hj1 : j + 1 < es.length - (m + 1) := by omega
        have hj0 : j < es.length - (m + 1) := by omega
        have i4 : 0 ≤ (j : Int) + 1 := by omega
        have i5 : (j : Int) + 1 < ((es.length - (m + 1) : Nat) : Int) := by omega
        have i6 : (j : Int) < ((es.length - (m + 1) : Nat) : Int) := by omega
        have hkl : kk < es.length := by omega
        clear heq r1 r0 hx hy key hbq hO hdl rw0
        go_upto_region 11 with fail
        refine wp_region_noPanic ?_
        refine wp_region_seq (S := (fun W => W.cell? ⟨g, m + 1 + (j + 1), none⟩ = some (.slice x.a x.xs.length x.c) ∧ W.cell? ⟨g, m + 1 + j, none⟩ = some (.slice y.a y.xs.length y.c) ∧ Qt wr W)) [true, true, true, true, true, true, true, true, true, true, false, true] (by kernel_rfl) (by kernel_rfl) (by kernel_rfl) rfl (fun _ _ _ _ _ h => h) ?_ (fun hHeld => ?_)
        · exact (unhide BX) _ ⟨1, rfl⟩
        simp only [List.toList_toArray]
        refine SeqH.take (v := ?hv11) (by rfl) ?hy11 ?hr11
        case hy11 =>
         intro w hSw
         try dsimp only at hSw
         go_simp
         try (with_reducible rfl)
        try simp only [Act.put, List.setIfInBounds_toArray, List.set_cons_zero, List.set_cons_succ]
        refine SeqH.take (v := ?hv12) (by rfl) ?hy12 ?hr12
        case hy12 =>
         intro w hSw
         try dsimp only at hSw
         go_simp
         try (with_reducible rfl)
        try simp only [Act.put, List.setIfInBounds_toArray, List.set_cons_zero, List.set_cons_succ]
        refine SeqH.take (v := ?hv13) (by rfl) ?hy13 ?hr13
        case hy13 =>
         intro w hSw
         try dsimp only at hSw
         go_simp
         try (with_reducible rfl)
        try simp only [Act.put, List.setIfInBounds_toArray, List.set_cons_zero, List.set_cons_succ]
        refine SeqH.take (v := ?hv14) (by rfl) ?hy14 ?hr14
        case hy14 =>
         intro w hSw
         try dsimp only at hSw
         go_simp
         try (with_reducible rfl)
        try simp only [Act.put, List.setIfInBounds_toArray, List.set_cons_zero, List.set_cons_succ]
        refine SeqH.take (v := ?hv15) (by rfl) ?hy15 ?hr15
        case hy15 =>
         intro w hSw
         try dsimp only at hSw
         go_simp
         try (with_reducible rfl)
        try simp only [Act.put, List.setIfInBounds_toArray, List.set_cons_zero, List.set_cons_succ]
        refine SeqH.take (v := ?hv16) (by rfl) ?hy16 ?hr16
        case hy16 =>
         intro w hSw
         try dsimp only at hSw
         go_simp
         try (with_reducible rfl)
        try simp only [Act.put, List.setIfInBounds_toArray, List.set_cons_zero, List.set_cons_succ]
        refine SeqH.take (v := ?hv17) (by rfl) ?hy17 ?hr17
        case hy17 =>
         intro w hSw
         try dsimp only at hSw
         go_simp
         try (with_reducible rfl)
        try simp only [Act.put, List.setIfInBounds_toArray, List.set_cons_zero, List.set_cons_succ]
        refine SeqH.take (v := ?hv18) (by rfl) ?hy18 ?hr18
        case hy18 =>
         intro w hSw
         try dsimp only at hSw
         go_simp
         try (with_reducible rfl)
        try simp only [Act.put, List.setIfInBounds_toArray, List.set_cons_zero, List.set_cons_succ]
        refine SeqH.take (v := ?hv19) (by rfl) ?hy19 ?hr19
        case hy19 =>
         intro w hSw
         try dsimp only at hSw
         go_simp
         try (with_reducible rfl)
        try simp only [Act.put, List.setIfInBounds_toArray, List.set_cons_zero, List.set_cons_succ]
        refine SeqH.take (v := ?hv20) (by rfl) ?hy20 ?hr20
        case hy20 =>
         intro w hSw
         try dsimp only at hSw
         go_simp
         try (with_reducible rfl)
        try simp only [Act.put, List.setIfInBounds_toArray, List.set_cons_zero, List.set_cons_succ]
        refine SeqH.call (fun K hK => ?_)
        go_simp
        refine ((unhide HEQ) _ (And.right (And.right hHeld))).mono ?_
        rintro e w5 ⟨rfl, q5⟩
        have d5 := Qt.trans (And.right (And.right hHeld)) q5
        clear hHeld
        refine hK.out _ _ ?_ (fun hHeld => ?_)
        · exact (unhide BX) _ d5
        clear hK K
        try simp only [Act.put, List.setIfInBounds_toArray, List.set_cons_zero, List.set_cons_succ]
        refine SeqH.take (v := ?hv21) (by rfl) ?hy21 ?hr21
        case hy21 =>
         intro w hSw
         try dsimp only at hSw
         go_simp
         try (with_reducible rfl)
        try simp only [Act.put, List.setIfInBounds_toArray, List.set_cons_zero, List.set_cons_succ]
        refine SeqH.done (NoPanic.normal ?_)
        cases bq with
        | true =>
         have he : x.xs = y.xs := of_decide_eq_true HBQ.out.symm
         have HI2 := hide (hI.out.skip (p := m + 1 + (j + 1)) hlt (by rw [show m + 1 + (j + 1) - 1 = m + 1 + j by omega, ← HX.out, ← HY.out]; exact he))
         clear he
         go_wp2_with fail
         go_roundw
         case rel => exact ⟨kk, j + 1 + 1, ds, rfl, by go_num, by omega, by omega, ho2.out.qt d5, by have h := unhide HI2; exact h, grownBy_qt hgr2.out d5⟩
         case measure => simp only [intOf]; omega
        | false =>
         have he : ¬ x.xs = y.xs := of_decide_eq_false HBQ.out.symm
         have hkp2 := hI.out.keep (p := m + 1 + (j + 1)) hlt (by rw [show m + 1 + (j + 1) - 1 = m + 1 + j by omega, ← HX.out, ← HY.out]; exact he)
         rw [← HX.out] at hkp2
         have HI2 := hide hkp2
         have cx := ((unhide BX) _ d5).1
         have hO5 := ho2.out.qt d5
         have ckk := hO5.cell (j := kk) (by rw [HDL.out]; exact hkl)
         have fkk := hO5.frozen kk
         rw [← HDL.out] at hO5
         have hs := hO5.set kk (k := x) (unhide RW0)
         rw [HDL.out] at hs
         have HS := hide hs
         clear he hkp2 hs hO5
         go_wp2_with fail
         go_roundw
         case rel => exact ⟨kk + 1, j + 1 + 1, ds.set kk x, by go_num, by go_num, by omega, by omega, (unhide HS).1, unhide HI2, grown_trans_row (grownBy_qt hgr2.out d5) (unhide HS).2⟩
         case measure => simp only [intOf]; omega
      · have hend : m + 1 + k2 = es.length := by omega
        have hdn := hI.out.done
        rw [hend, List.take_length] at hdn
        have hkl : kk < es.length := by omega
        have hO := ho2.out
        have hcl : ∀ ty, (Builtin.clear_ #[42] ty #[.slice (some ⟨g, kk, none⟩) (es.length - kk) (c - kk)]).run Tryz.prog wr = .ok (.tuple #[]) (wr.setCells g kk (Builtin.zeroCells #[.slice none 0 0] (es.length - kk)).toList) := fun ty => run_clear_hdrs wr ty g kk (es.length - kk) (c - kk) (by omega) (fun j hj => by rw [hO.cell (j := kk + j) (by omega)]; rfl) (fun j _ => hO.frozen _)
        rw [← HDL.out] at hO
        have hfin := OwnR.clear (vs := (Builtin.zeroCells #[.slice none 0 0] (es.length - kk)).toList) hO (show kk ≤ ds.length by omega)
        rw [hdn] at hfin
        have FIN := hide hfin
        have hkc3 : kk < c := by omega
        have hkc4 : ¬ c = kk := by omega
        clear hfin hdn hdl hend hO
        go_wp2_with fail
        go_ret
        exact ⟨_, rfl, (unhide FIN).1, grown_trans_row hgr2.out (unhide FIN).2⟩
    | false =>
     have he : ¬ x.xs = y.xs := of_decide_eq_false HBQ.out.symm
     have hkp := cmpctH_keep (es := es) (k := m + 1) (by omega) hkn (by rw [Nat.add_sub_cancel, ← HX.out, ← HY.out]; exact he)
     have hq2 : cmpct eqH (es.take (m + 1 + 1)) = es.take (m + 1 + 1) := by rw [hkp, hq.out, ← takeH hkn]
     have HQ := hide hq2
     clear he hkp hq2
     go_wp2_with fail
     go_roundw
     case rel => exact ⟨m + 1 + 1, by go_num, by omega, by omega, ho.out.qt d5, grownBy_qt hgr.out d5, unhide HQ⟩
     case measure => simp only [intOf]; omega
  · have hke : k = es.length := by omega
    have hq2 := hq.out
    rw [hke, List.take_length] at hq2
    have HQ := Lib.hid hq2
    clear hq2 hke
    go_wp2_with fail
    go_ret
    exact ⟨_, rfl, by rw [HQ.out]; exact ho.out, hgr.out⟩
end Go.Proofs.YtgfcbmflnldicaaGreat
namespace Go.Proofs.YtgfcbmflnldicaaGreat
open Go.RowKit
attribute [local go_sem ↓] Go.wp_at_zero Go.wp_at_succ
theorem compactE_own {w : World} {B : Nat} {v : Value} {es : List (Int × Int)} (h : OwnE w B v es) :
    Calls Tryz.prog 191 #[v] w fun e w' => ∃ v', e = .returned v' ∧ OwnE w' B v' (cmpct sameE es) ∧ w.grownBy w' v.ownBlock := by
 rcases h.slice_form with ⟨rfl, rfl⟩ | ⟨g, c, rfl, hB, hg⟩
 · go_enter Tryz.func191, Tryz.ntmps191
   go_wp2
   go_ret
   exact ⟨_, rfl, OwnE.nil _ _, World.grownBy.refl _ _⟩
 · have hcap : es.length ≤ c := by
     rcases h.2.2 with ⟨e, _⟩ | ⟨g', cap', cur, e, _, _, hn, _⟩
     · cases e
     · injection e with _ _ e
       omega
   refine (compactE_any h hcap).mono ?_
   rintro e w' ⟨m, rfl, o, gr⟩
   exact ⟨_, rfl, o, gr⟩
def ordA (es : List (Int × Int)) (k : Nat) : List (Int × Int) := (es.take k).map ordE
theorem ordA_len (es : List (Int × Int)) {k : Nat} (h : k ≤ es.length) : (ordA es k).length = k := by simp [ordA]; omega
theorem ordA_succ {es : List (Int × Int)} {k : Nat} (h : k < es.length) : ordA es (k + 1) = ordA es k ++ [ordE (nthE es k)] := by rw [ordA, ordA, take_nthE h, List.map_append]; rfl
def Srt (es gs : List (Int × Int)) : Prop := ∃ fs : List (Int × Int), fs.Perm (es.map ordE) ∧ fs.Pairwise (fun a b => ¬ LtE b a) ∧ gs = cmpct sameE fs
theorem Srt.edges {n : Nat} {es gs : List (Int × Int)} (h : Srt es gs) (hi : ∀ e ∈ es, 0 ≤ e.1 ∧ e.1 < n ∧ 0 ≤ e.2 ∧ e.2 < n ∧ e.1 ≠ e.2) : gs = edgesT n (adjE es) n := by
 obtain ⟨fs, h1, h2, rfl⟩ := h
 exact made_edges hi h1 h2
theorem Srt.len {es gs : List (Int × Int)} (h : Srt es gs) : gs.length ≤ es.length := by
 obtain ⟨fs, h1, h2, rfl⟩ := h
 have := cmpct_len sameE fs
 have h3 := h1.length_eq
 rw [List.length_map] at h3
 omega
theorem sortedEdges_any (ra : Option Addr) (rc : Nat) (es : List (Int × Int)) (w : World) (hes : RdE w ra es) :
    Calls Tryz.prog 124 #[.slice ra es.length rc] w fun e w' => ∃ v gs, e = .returned v ∧ Srt es gs ∧ OwnE w' w.heap.size v gs ∧ Below w.heap.size w w' := by
 have hel := hes.len
 have HES := hide hes
 have O0 := hide (show OwnE w w.heap.size (.slice none 0 0) (ordA es 0) from OwnE.nil _ _)
 clear hes
 go_enter Tryz.func124, Tryz.ntmps124
 go_wp2_with fail
 go_loopw [3, 8] (fun v iv wr => ∃ k : Nat, iv = .int .i64 k ∧ k ≤ es.length ∧ Hid (OwnE wr w.heap.size v (ordA es k)) ∧ Below w.heap.size w wr) (fun _ iv _ => es.length - (intOf iv).toNat)
 case atStart => exact ⟨0, rfl, Nat.zero_le _, O0, Below.refl _ _⟩
 case round =>
  obtain ⟨k, rfl, hk, ho, hb⟩ := hrel
  have hsz := hb.size
  by_cases hkl : k < es.length
  · obtain ⟨b1, o1, rfl, hbb, hcx⟩ := (unhide HES).at_ (by omega)
    obtain ⟨hx1, hx2⟩ := hcx k hkl
    obtain ⟨x, hx⟩ : ∃ z, z = (nthE es k).1 := ⟨_, rfl⟩
    obtain ⟨y, hy⟩ : ∃ z, z = (nthE es k).2 := ⟨_, rfl⟩
    have he : nthE es k = (x, y) := by rw [hx, hy]
    rw [← hx] at hx1
    rw [← hy] at hx2
    have hx1 := (hb.cell (p := ⟨b1, o1 + k * 2, none⟩) hbb).trans hx1
    have hx2 := (hb.cell (p := ⟨b1, o1 + k * 2 + 1, none⟩) hbb).trans hx2
    have hst := ordA_succ hkl
    rw [he] at hst
    have hle := ordA_len es hk
    obtain ⟨L, hL⟩ : ∃ L, L = ordA es k := ⟨_, rfl⟩
    rw [← hL] at ho hst hle
    obtain ⟨wE, hwE⟩ : ∃ wE, wE = wr.alloc (.cells #[.int .i64 x, .int .i64 y] 142) := ⟨_, rfl⟩
    have hbE : Below wr.heap.size wr wE := by rw [hwE]; exact (Below.refl _ _).alloc (Nat.le_refl _) _
    have kE : Blk wE wr.heap.size 142 #[.int .i64 x, .int .i64 y] := by rw [hwE]; exact Blk.new _ _ _ rfl
    have hbE0 := hb.trans (hbE.mono hsz)
    have HWE := Lib.hid hwE
    have HLE := Lib.hid hle
    have e0 := kE.cell 0
    have e1 := kE.cell 1
    have oE := ho.out.below hbE (Nat.le_refl _)
    obtain ⟨ea, ec, rfl⟩ := oE.slice_val
    have OE := hide oE
    have sE := hbE0.size
    clear hx hy hwE hcx hL hle ho oE he
    go_upto_region 5 with fail
    rw [← HWE.out]
    by_cases hxy : x < y
    · rw [show ordE (x, y) = (x, y) by simp [ordE, hxy]] at hst
      have HST := Lib.hid hst
      have hmn : min x y = x := by omega
      have hmx : max x y = y := by omega
      clear hst
      go_wp2_with (at_builtin; refine wpList_append_edge rfl (.tmp 12) (.tmp 24) rfl rfl ((unhide OE).below ((Below.refl _ _).alloc (Nat.le_refl _) _) (Nat.le_refl _)) (x, y) wE.heap.size rfl ((Blk.new wE 142 #[.int .i64 x, .int .i64 y] rfl).cell 0) ((Blk.new wE 142 #[.int .i64 x, .int .i64 y] rfl).cell 1) (by simp; omega) (by rw [HLE.out]; omega) ?_; intro v5 w5 o5 g5 _)
      go_roundw
      case rel => exact ⟨k + 1, by go_num, by omega, by show OwnE _ _ _ _; rw [HST.out]; exact o5, (hbE0.alloc (by omega) _).grown g5 (by simp; omega) (fun q hq => ((unhide OE).lt q hq).1)⟩
      case measure => simp only [intOf]; omega
    · rw [show ordE (x, y) = (y, x) by simp [ordE, hxy]] at hst
      have HST := Lib.hid hst
      have hmn : min x y = y := by omega
      have hmx : max x y = x := by omega
      clear hst
      go_wp2_with (at_builtin; refine wpList_append_edge rfl (.tmp 12) (.tmp 24) rfl rfl ((unhide OE).below ((Below.refl _ _).alloc (Nat.le_refl _) _) (Nat.le_refl _)) (y, x) wE.heap.size rfl ((Blk.new wE 142 #[.int .i64 y, .int .i64 x] rfl).cell 0) ((Blk.new wE 142 #[.int .i64 y, .int .i64 x] rfl).cell 1) (by simp; omega) (by rw [HLE.out]; omega) ?_; intro v5 w5 o5 g5 _)
      go_roundw
      case rel => exact ⟨k + 1, by go_num, by omega, by show OwnE _ _ _ _; rw [HST.out]; exact o5, (hbE0.alloc (by omega) _).grown g5 (by simp; omega) (fun q hq => ((unhide OE).lt q hq).1)⟩
      case measure => simp only [intOf]; omega
  · have hke : k = es.length := by omega
    have oS := ho.out
    rw [hke] at oS
    have hso := sortE_own oS
    have HSO := hide hso
    have OS := hide oS
    clear hso oS ho hke
    go_wp2_with fail
    refine (unhide HSO).mono ?_
    rintro e w6 ⟨rfl, fs, hp, hs, o6, g6⟩
    have hb6 := hb.grown g6 (by omega) (fun q hq => ((unhide OS).lt q hq).1)
    have hco := compactE_own o6
    have HCO := hide hco
    have O6 := hide o6.lt
    have HP := hide hp
    have HS := hide hs
    clear hco o6 hp hs g6
    go_wp2_with fail
    refine (unhide HCO).mono ?_
    rintro e w7 ⟨v7, rfl, o7, g7⟩
    have hb7 := hb6.grown g7 hb6.size (fun q hq => ((unhide O6) q hq).1)
    go_wp2
    go_ret
    exact ⟨_, _, rfl, ⟨fs, by have h := unhide HP; rw [ordA, List.take_length] at h; exact h, unhide HS, rfl⟩, o7, hb7⟩
end Go.Proofs.YtgfcbmflnldicaaGreat
