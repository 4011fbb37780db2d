/-
  Texts joined.
-/
import Derived.IntWalk
import Derived.Test.YtgfcbmflnldicaaGreatBW3
import Derived.Test.YtgfcbmflnldicaaGreatBW6
set_option linter.unusedVariables false
set_option linter.unusedSimpArgs false
set_option maxRecDepth 100000
set_option maxHeartbeats 40000000
namespace Go.Proofs.YtgfcbmflnldicaaGreat
open Go.RowKit
attribute [local go_sem ↓] Go.wp_at_zero Go.wp_at_succ
theorem alloc_le {B : Nat} {w : World} (h : B ≤ w.heap.size) (o : Obj) : B ≤ (w.alloc o).heap.size := by simp; omega
theorem l17Less_any (g : Nat) (F : FD) (a b : Option Addr) (c d : Nat) (xs ys : List Int) (s : Int) (w : World) (hF : PF w g F) (ok : F.Ok) (hx : Rd w a xs) (hy : Rd w b ys) (hl : ys.length = xs.length) (hs0 : 0 ≤ s) (hs1 : s < F.n) (hm : ∀ x ∈ xs, 0 ≤ x ∧ x < F.n) (hm2 : ∀ y ∈ ys, 0 ≤ y ∧ y < F.n) :
    Calls Tryz.prog 215 #[.pointer (some ⟨g, 0, none⟩), .slice a xs.length c, .slice b ys.length d, .int .i64 s] w fun e w' => ∃ v, e = .returned v ∧ Own w' w.heap.size v (less F xs ys s) ∧ Below w.heap.size w w' := by
 obtain ⟨n2, n64⟩ := ok.n_bd
 have hp2 := ok.p2
 have hp64 := ok.p64
 have hxl := hx.len
 have HL := Lib.hid hl
 clear hl
 go_enter Tryz.func215, Tryz.ntmps215
 go_wp2
 go_loopw [9, 10] (fun v iv wr => ∃ (k : Nat), iv = .int .i64 k ∧ k ≤ xs.length ∧ Hid (Own wr w.heap.size v (lessTo F xs ys s k)) ∧ Below w.heap.size w wr) (fun _ iv _ => xs.length - (intOf iv).toNat)
 case atStart => exact ⟨0, rfl, Nat.zero_le _, Own.empty w (Nat.le_refl _), (Below.refl _ _).alloc (Nat.le_refl _) _⟩
 case round =>
  obtain ⟨k, rfl, hk, ho, hb⟩ := hrel
  have hsz := hb.size
  by_cases hkl : k < xs.length
  · have hky : k < ys.length := by rw [HL.out]; exact hkl
    obtain ⟨gb1, ob1, rfl, hbb1, hc1⟩ := hx.at_ (by omega)
    obtain ⟨gb2, ob2, rfl, hbb2, hc2⟩ := hy.at_ (by omega)
    have h1 := hc1 k hkl
    have h2 := hc2 k hky
    have hxr := hm _ (nth_mem hkl)
    have hyr := hm2 _ (nth_mem hky)
    have hst := lessTo_succ F xs ys s k
    generalize nth xs k = x at h1 hxr hst
    generalize nth ys k = y at h2 hyr hst
    have hmul := fun W h => l03Mul_any g F y s W h ok hyr.1 (by omega) hs0 (by omega)
    have hcm : mulF F.p F.k F.poly y s = F.mul s y := mul_comm' ok y s
    rw [hcm] at hmul
    have hMb := mul_bd ok s y
    obtain ⟨M, hM⟩ : ∃ M, M = F.mul s y := ⟨_, rfl⟩
    rw [← hM] at hmul hst hMb
    have hsum := fun W h => l03Sum_any g F x M (F.p - 1) W h ok hxr.1 (by omega) hMb.1 (by omega) (by omega) (by omega)
    have hls : lin (F.p - 1) F.p F.k x M = F.sub x M := lin_sign F.k x M
    rw [hls] at hsum
    obtain ⟨D, hD⟩ : ∃ D, D = F.sub x M := ⟨_, rfl⟩
    rw [← hD] at hsum hst
    have boxes : ∀ (W : World), Below w.heap.size w W → (Below w.heap.size w W ∧ W.cell? ⟨g, 0, none⟩ = some (.int .i64 F.p) ∧ W.cell? ⟨gb1, ob1 + k, none⟩ = some (.int .i64 x) ∧ W.cell? ⟨gb2, ob2 + k, none⟩ = some (.int .i64 y)) := fun _ h =>
     ⟨h, (hF.below h).1, (h.cell (p := ⟨gb1, ob1 + k, none⟩) hbb1).trans h1, (h.cell (p := ⟨gb2, ob2 + k, none⟩) hbb2).trans h2⟩
    have BX := hide boxes
    have HMUL := hide hmul
    have HSUM := hide hsum
    have HST := Lib.hid hst
    have hll := lessTo_len F xs ys s k
    have hA : (lessTo F xs ys s k).length + [D].length ≤ 1073741824 := by rw [hll]; simp; omega
    clear boxes hmul hsum hcm hls hst hM hD hc1 hc2 h1 h2 hll
    have hwr : IntKind.i64.wrap (F.p - 1) = F.p - 1 := IntWalk.i64_in _ (by omega)
    go_upto_region 5 with fail
    go_region_held3 (fun W => Below w.heap.size w W ∧ W.cell? ⟨g, 0, none⟩ = some (.int .i64 F.p) ∧ W.cell? ⟨gb1, ob1 + k, none⟩ = some (.int .i64 x) ∧ W.cell? ⟨gb2, ob2 + k, none⟩ = some (.int .i64 y))
     (first | exact (unhide BX) _ hb | exact (unhide BX) _ (hb.drew) | exact (unhide BX) _ (by assumption) | exact (unhide BX) _ hB4 | exact (unhide BX) _ (hB2.alloc hZ2 _))
     (first
      | (go_at_call 218; refine (unhide HMUL _ ?_).mono ?_; exact hF.below (And.left (by assumption)); rintro e W1 ⟨rfl, b1⟩; have hB1 := Below.chain (a := w) (And.left (by assumption)) b1; have hQ1 := b1.size)
      | (go_at_call 97; refine (unhide HSUM _ ?_).mono ?_; exact hF.below hB1; rintro e W2 ⟨rfl, b2⟩; have hB2 := Below.chain hB1 b2; have hQ2 := b2.size; have hZ2 := hB2.size; have o2 := (ho.out.drewN 1).below (b1.trans (b2.mono hQ1)) (Nat.le_refl _))
      | (refine step_append_ints (ys := [D]) rfl (.tmp 18) (.tmp 37) rfl rfl (o2.alloc _) _ 1 1 rfl rfl (Rd.one W2 D _) hA (alloc_le hZ2 _) ?_; intro v4 W4 o4 g4 _; have hB4 := Below.step (hB2.alloc hZ2 _) g4 (o2.alloc _) (Nat.le_refl _) (alloc_le hZ2 _)))
    clear hwr
    have hb4 := hB4
    clear BX HMUL HSUM hB1 hB2 hB4
    go_wp2
    go_roundw
    case rel => exact ⟨k + 1, by go_num, by omega, by show Own _ _ _ _; rw [HST.out]; exact o4, hb4⟩
    case measure => simp only [intOf]; omega
  · have hke : k = xs.length := by omega
    have HE := Lib.hid hke
    clear hke
    go_wp2
    go_ret
    exact ⟨_, rfl, by have o := ho.out; rw [HE.out] at o; exact o, hb⟩
end Go.Proofs.YtgfcbmflnldicaaGreat
namespace Go.Proofs.YtgfcbmflnldicaaGreat
open Go.RowKit
attribute [local go_sem ↓] Go.wp_at_zero Go.wp_at_succ
def NB (u x : Value) : Prop := ∀ k, x.ownBlock = some k → u.ownBlock ≠ some k
theorem OwnSQ.grow2 {w w' : World} {B B' : Nat} {v u u2 : Value} {yss : List (List Int)} {us : List Int} (h : OwnSQ w B v yss (NB u)) (hu : Own w B' u us) (hg : w.grownBy w' u.ownBlock) (hc : u2.ownBlock = u.ownBlock ∨ u2.ownBlock = some w.heap.size) : OwnSQ w' B v yss (NB u2) := by
 have h2 : OwnSQ w B v yss (fun x => NB u x ∧ NB u2 x) := h.imp fun x hlt hq => ⟨hq, fun k hk => by
  rcases hc with e | e
  · rw [e]; exact hq k hk
  · rw [e]; intro e2; injection e2 with e2; have := hlt k hk; omega⟩
 exact (h2.grow hu hg fun x q => q.1).imp fun x _ q => q.2
theorem OwnSQ.lt {w : World} {B g n c : Nat} {yss : List (List Int)} {Q : Value → Prop} (h : OwnSQ w B (.slice (some ⟨g, 0, none⟩) n c) yss Q) (h0 : 0 < yss.length) : g < w.heap.size := by
 obtain ⟨g', c', e, _, h1, _⟩ := h.own.at_ h0
 injection e with e _ _
 injection e with e
 injection e with e _ _
 omega
theorem OwnSQ.cellOf {w : World} {B g n c : Nat} {yss : List (List Int)} {Q : Value → Prop} (h : OwnSQ w B (.slice (some ⟨g, 0, none⟩) n c) yss Q) {i : Nat} (hi : i < yss.length) : ∃ y c', w.cell? ⟨g, i, none⟩ = some (.slice y (nthL yss i).length c') := by
 obtain ⟨a, c', _, _, h1, _⟩ := h.row hi
 have := h1 g 0 _ _ rfl
 rw [Nat.zero_add] at this
 exact ⟨_, _, this⟩
theorem OwnSQ.others {w w' : World} {B B2 g n c : Nat} {yss : List (List Int)} {Q : Value → Prop} {x : Value} {xs : List Int} (h : OwnSQ w B (.slice (some ⟨g, 0, none⟩) n c) yss Q) (hg : w.grownBy w' (some g)) (ho : Own w B2 x xs) : Own w' B2 x xs := by
 obtain ⟨_, vs, hr, _⟩ := h
 exact row_grow hr hg ho
theorem Below.stepQ {a w w' : World} {B g n c : Nat} {yss : List (List Int)} {Q : Value → Prop} (hb : Below B a w) (h : OwnSQ w B (.slice (some ⟨g, 0, none⟩) n c) yss Q) (hg : w.grownBy w' (some g)) (hB : B ≤ w.heap.size) : Below B a w' := Below.stepS (v := .slice (some ⟨g, 0, none⟩) n c) hb hg h.own (Nat.le_refl _) hB
theorem OwnSQ.cell2 {w : World} {B g n c : Nat} {yss : List (List Int)} {Q : Value → Prop} {y : Value} (h : OwnSQ w B (.slice (some ⟨g, 0, none⟩) n c) yss Q) {t : Nat} (ht : t < yss.length) (i : Nat) (hy : w.cell? ⟨g, t, none⟩ = some y) : (w.setCell ⟨g, i, none⟩ y).cell? ⟨g, t, none⟩ = some y := by
 have e := h.own.len
 subst e
 obtain ⟨_, vs, hr, hin, _⟩ := h
 obtain ⟨h1, _⟩ := hr.stored i y
 have hv : vs[t]? = some y := by rw [← hr.cellAt t (by omega)]; exact hy
 rw [h1.cellAt t (by omega)]
 by_cases e : i = t
 · subst e
   rw [List.getElem?_set_self (by rw [hin.1]; exact ht)]
 · rw [List.getElem?_set_ne e, hv]
theorem OwnSQ.putNew {w w' : World} {B g n c : Nat} {u r : Value} {yss : List (List Int)} {us ys : List Int} (h : OwnSQ w B (.slice (some ⟨g, 0, none⟩) n c) yss (NB u)) (hu : Own w B u us) (hr : Own w' w.heap.size r ys) (hb : Below w.heap.size w w') (hB : B ≤ w.heap.size) {j : Nat} (hj : j < yss.length) :
    OwnSQ (w'.setCell ⟨g, j, none⟩ r) B (.slice (some ⟨g, 0, none⟩) n c) (yss.set j ys) (NB u) ∧ w'.grownBy (w'.setCell ⟨g, j, none⟩ r) (some g) := by
 have h2 : OwnSQ w B (.slice (some ⟨g, 0, none⟩) n c) yss (fun x => NB u x ∧ ∀ k, x.ownBlock = some k → k < w.heap.size) := h.imp fun x hlt hq => ⟨hq, hlt⟩
 refine (h2.below hb).put hr hB (fun x q => q.2) ?_ (fun x q => q.1) hj
 intro k hk e
 have a1 := (hr.lt k hk).1
 have a2 := (hu.lt k e).2
 omega
theorem OwnSQ.put2New {w w' : World} {B g n c : Nat} {u r y : Value} {yss : List (List Int)} {us ys : List Int} (h : OwnSQ w B (.slice (some ⟨g, 0, none⟩) n c) yss (NB u)) (hu : Own w B u us) (hr : Own w' w.heap.size r ys) (hb : Below w.heap.size w w') (hB : B ≤ w.heap.size) {i t : Nat} (hi : i < yss.length) (ht : t < yss.length) (hy : w'.cell? ⟨g, t, none⟩ = some y) :
    OwnSQ ((w'.setCell ⟨g, i, none⟩ y).setCell ⟨g, t, none⟩ r) B (.slice (some ⟨g, 0, none⟩) n c) ((yss.set i (nthL yss t)).set t ys) (NB u) ∧ w'.grownBy ((w'.setCell ⟨g, i, none⟩ y).setCell ⟨g, t, none⟩ r) (some g) := by
 have h2 : OwnSQ w B (.slice (some ⟨g, 0, none⟩) n c) yss (fun x => NB u x ∧ ∀ k, x.ownBlock = some k → k < w.heap.size) := h.imp fun x hlt hq => ⟨hq, hlt⟩
 refine (h2.below hb).put2 hr hB (fun x q => q.2) ?_ (fun x q => q.1) hi ht hy
 intro k hk e
 have a1 := (hr.lt k hk).1
 have a2 := (hu.lt k e).2
 omega
theorem l17Reduce_any (g : Nat) (F : FD) (a : Option Addr) (c : Nat) (xss : List (List Int)) (n : Nat) (w : World) (hF : PF w g F) (hG : F.Good) (hx : RdS w a xss) (h0 : 0 < xss.length) (hM : F.Mat n xss) :
    Calls Tryz.prog 195 #[.pointer (some ⟨g, 0, none⟩), .slice a xss.length c, .int .i64 n] w fun e w' => ∃ v u, e = .returned (.tuple #[v, u]) ∧ OwnSQ w' w.heap.size v (red F xss n).1 (NB u) ∧ Own w' w.heap.size u (red F xss n).2 ∧ Below w.heap.size w w' := by
 have ok := hG.ok
 obtain ⟨n2, n64⟩ := ok.n_bd
 have hxl := hx.len
 have hn : n ≤ 1073741824 := by
  obtain ⟨b, off, _, _, hc⟩ := hx.at_ h0
  obtain ⟨ai, ci, _, hr⟩ := hc 0 h0
  have := hr.len
  rwa [(Mat_nth hM h0).1] at this
 go_enter Tryz.func195, Tryz.ntmps195
 go_wp2_with fail
 refine (l17Own_any a c xss w hx).mono ?_
 rintro e w1 ⟨v1, rfl, o1, b1⟩
 obtain ⟨gb, cb, rfl, hgB, hgl, hcb, hcb2⟩ := o1.at_ h0
 have hs1 := b1.size
 have q1 : OwnSQ (w1.alloc (.cells #[] 2)) w.heap.size (.slice (some ⟨gb, 0, none⟩) xss.length cb) xss (NB (.slice (some ⟨w1.heap.size, 0, none⟩) 0 0)) := (o1.toQ (Q := fun x => ∀ k, x.ownBlock = some k → k < w1.heap.size) (fun x hx k hk => (hx k hk).2)).below ((Below.refl _ _).alloc (Nat.le_refl _) _) |>.imp fun x _ hq k hk e => by
  have e : some w1.heap.size = some k := e
  injection e with e
  have := hq k hk
  omega
 have Q1 := hide q1
 clear q1 o1
 go_wp2_with fail
 go_loopw [9, 10] (fun u iv wr => ∃ (k : Nat) (rows : List (List Int)) (piv : List Int), iv = .int .i64 k ∧ k ≤ n ∧ Hid (red F xss k = (rows, piv)) ∧ Hid (rows.length = xss.length) ∧ piv.length ≤ xss.length ∧ Hid (OwnSQ wr w.heap.size (.slice (some ⟨gb, 0, none⟩) xss.length cb) rows (NB u)) ∧ Hid (Own wr w.heap.size u piv) ∧ Below w.heap.size w wr) (fun _ iv _ => n - (intOf iv).toNat)
 case atStart => exact ⟨0, xss, [], rfl, Nat.zero_le _, rfl, rfl, Nat.zero_le _, unhide Q1, Own.empty w1 hs1, b1.alloc hs1 _⟩
 case round =>
  obtain ⟨k, rows, piv, rfl, hk, hred, hrl, hpl, hrows, hpiv, hb⟩ := hrel
  obtain ⟨ua, uc, rfl, _, _⟩ := hpiv.out.form
  have hsz := hb.size
  by_cases hkn : k < n
  · by_cases hpt : piv.length < xss.length
    · have hMr : F.Mat n rows := by have h := red_Mat ok hM k; rw [hred.out] at h; exact h
      have HMr := hide hMr
      clear hMr
      obtain ⟨wo, rfl⟩ : ∃ wo : World, wo = wr := ⟨_, rfl⟩
      go_wp2_with fail
      go_loop [12] (fun iv => ∃ i : Nat, iv = .int .i64 i ∧ piv.length ≤ i ∧ i ≤ xss.length ∧ Hid (∀ j, piv.length ≤ j → j < i → nth (nthL rows j) k = 0)) (fun iv => xss.length - (intOf iv).toNat)
      case atStart => exact ⟨piv.length, rfl, Nat.le_refl _, hpl, fun j h1 h2 => by omega⟩
      case round =>
       obtain ⟨i, rfl, hti, hi, hz⟩ := hrel
       by_cases hil : i < xss.length
       · have hir : i < rows.length := by rw [hrl.out]; exact hil
         obtain ⟨ai, ci, oi, _, hci, _, _⟩ := hrows.out.row hir
         have h1 := hci gb 0 _ _ rfl
         rw [Nat.zero_add] at h1
         have hm := Mat_nth (unhide HMr) hir
         obtain ⟨br, orr, rfl, hbr, hcc⟩ := oi.rd.at_ (by rw [hm.1]; omega)
         have h2 := hcc k (by rw [hm.1]; exact hkn)
         have RI := hide oi.rd
         have hxe := hm.2 _ (nth_mem (k := k) (by rw [hm.1]; exact hkn))
         obtain ⟨x, hX⟩ : ∃ x, x = nth (nthL rows i) k := ⟨_, rfl⟩
         rw [← hX] at h2 hxe
         have HX := Lib.hid hX
         have HM1 := Lib.hid hm.1
         have HM2 := hide hm.2
         rw [hm.1] at h1
         clear hX hm hcc hci oi
         by_cases hx0 : x = 0
         · subst hx0
           go_wp2_with fail
           go_round
           case rel =>
            refine ⟨i + 1, by go_num, by omega, by omega, fun j h3 h4 => ?_⟩
            rcases Nat.lt_succ_iff_lt_or_eq.1 h4 with h | rfl
            · exact hz.out j h3 h
            · exact HX.out.symm
           case measure => simp only [intOf]; omega
         · go_upto_region 11 with fail
           have hF' := hF.below hb
           have hx1 : 1 ≤ x := by omega
           have hvb := inv_spec hG hx1 hxe.2
           have hinv := fun W h => l03Inverse_any g F x W h hG hx1 hxe.2
           obtain ⟨y, hY⟩ : ∃ y, y = F.inv x := ⟨_, rfl⟩
           rw [← hY] at hinv hvb
           have hsc := fun W h h' => l17Scale_any g F (some ⟨br, orr, none⟩) ci (nthL rows i) y W h ok h' (by omega) hvb.2.2.1 (unhide HM2)
           rw [HM1.out] at hsc
           obtain ⟨sc, hS⟩ : ∃ sc, sc = scale F y (nthL rows i) := ⟨_, rfl⟩
           have hscl : sc.length = n := by rw [hS, scale_len]; exact HM1.out
           rw [← hS] at hsc
           have hbb : gb < wo.heap.size := hrows.out.lt (by omega)
           have boxes : ∀ (W : World), Below wo.heap.size wo W → (Below wo.heap.size wo W ∧ W.cell? ⟨gb, i, none⟩ = some (.slice (some ⟨br, orr, none⟩) n ci) ∧ W.cell? ⟨br, orr + k, none⟩ = some (.int .i64 x)) := fun _ h =>
            ⟨h, (h.cell (p := ⟨gb, i, none⟩) hbb).trans h1, (h.cell (p := ⟨br, orr + k, none⟩) hbr).trans h2⟩
           have BX := hide boxes
           have HINV := hide hinv
           have HSC := hide hsc
           have HY := Lib.hid hY
           have HS := Lib.hid hS
           have RD : ∀ W, Below wo.heap.size wo W → Rd W (some ⟨br, orr, none⟩) (nthL rows i) := fun W h => (unhide RI).below h
           have RDH := hide RD
           clear boxes hinv hsc hY hS RD hvb
           go_region_held3 (fun W => Below wo.heap.size wo W ∧ W.cell? ⟨gb, i, none⟩ = some (.slice (some ⟨br, orr, none⟩) n ci) ∧ W.cell? ⟨br, orr + k, none⟩ = some (.int .i64 x))
            (first | exact (unhide BX) _ (Below.refl _ _) | exact (unhide BX) _ ((Below.refl _ _).drew) | exact (unhide BX) _ (by assumption))
            (first
             | (go_at_call 243; refine (unhide HINV _ ?_).mono ?_; exact hF'.below (And.left (by assumption)); rintro e W1 ⟨rfl, bb1⟩; have hB1 := Below.chain (a := wo) (And.left (by assumption)) bb1)
             | (go_at_call 172; refine (unhide HSC _ ?_ ?_).mono ?_; exact hF'.below hB1; exact (unhide RDH) _ hB1; rintro e W2 ⟨r, rfl, o2, bb2⟩; have hB2 := Below.chain hB1 bb2; have hQ1 := hB1.size; have o3 := o2.mono hQ1))
           clear BX HINV HSC hB1 bb2 o2 hQ1
           have htr : piv.length < rows.length := by rw [hrl.out]; exact hpt
           obtain ⟨qa, qc, hq⟩ := (hrows.out.below hB2).cellOf htr
           rw [(Mat_nth (unhide HMr) htr).1] at hq
           have hsto := hrows.out.put2New hpiv.out o3 hB2 hsz hir htr hq
           have hfz1 := (hrows.out.below hB2).own.frozen i
           have o4 := (hrows.out.below hB2).others hsto.2 o3
           have p4 := (hrows.out.below hB2).others hsto.2 (hpiv.out.below hB2 (Nat.le_refl _))
           have b4 := Below.stepQ (hb.trans (hB2.mono hsz)) (hrows.out.below hB2) hsto.2 (by have := hB2.size; omega)
           have hcl2 := (hrows.out.below hB2).cell2 htr i hq
           have f5 := fun j => hsto.1.own.frozen j
           have hfz2 : (W2.setCell ⟨gb, i, none⟩ (.slice qa n qc)).frozen? ⟨gb, piv.length, none⟩ = false := by simpa using (hrows.out.below hB2).own.frozen piv.length
           have hgt : (nthL rows piv.length).length = n ∧ True := ⟨(Mat_nth (unhide HMr) htr).1, trivial⟩
           have hMt := topped_Mat (c := k) (t := piv.length) ok (unhide HMr) hir htr
           have hMl := topped_len F k piv.length rows i
           have hMn := nthL_set_same (xss := rows.set i (nthL rows piv.length)) (i := piv.length) (by rw [List.length_set]; exact htr) sc
           have hR : red F xss (k + 1) = (elimTo F k piv.length (topped F k piv.length rows i) rows.length, piv ++ [(k : Int)]) := by
            have hpv : pivAt rows k piv.length = i := pivAt_hit hti hir (by rw [← HX.out]; exact hx0) (fun j h1 h2 => hz.out j h1 h2)
            rw [red, hred.out, stepR]
            show (if piv.length < rows.length ∧ pivAt rows k piv.length < rows.length then (redOne F k piv.length rows (pivAt rows k piv.length), piv ++ [(k : Int)]) else (rows, piv)) = _
            rw [hpv, if_pos ⟨htr, hir⟩, redOne]
           have ht1 : topped F k piv.length rows i = (rows.set i (nthL rows piv.length)).set piv.length sc := by rw [topped, ← HX.out, ← HY.out, ← HS.out]
           rw [ht1] at hMt hMl hR
           rw [hrl.out] at hMl hR
           obtain ⟨tp, hTP⟩ : ∃ tp, tp = (rows.set i (nthL rows piv.length)).set piv.length sc := ⟨_, rfl⟩
           rw [← hTP] at hMt hMl hMn hR hsto
           obtain ⟨ra, rc, rfl, _, _⟩ := o3.form
           rw [hscl] at hsto o4 p4 b4 ⊢
           have sto := hide hsto.1
           have HMT := hide hMt
           have HML := Lib.hid hMl
           have HMN := Lib.hid hMn
           have HR := Lib.hid hR
           have O4 := hide o4
           have P4 := hide p4
           have hscle : ∀ z ∈ sc, 0 ≤ z ∧ z < F.n := by rw [HS.out]; exact scale_el ok _ _
           have HSE := hide hscle
           have HSL := Lib.hid hscl
           clear hMt hMl hMn hR ht1 hTP hsto o4 p4 hscle o3 f5 hgt
           go_wp2_with fail
           go_loopw [14] (fun jv wr => ∃ j : Nat, jv = .int .i64 j ∧ j ≤ xss.length ∧ Hid (OwnSQ wr w.heap.size (.slice (some ⟨gb, 0, none⟩) xss.length cb) (elimTo F k piv.length tp j) (NB (.slice ua piv.length uc))) ∧ Hid (Own wr wo.heap.size (.slice ra n rc) sc) ∧ Hid (Own wr w.heap.size (.slice ua piv.length uc) piv) ∧ Below w.heap.size w wr) (fun jv _ => xss.length - (intOf jv).toNat)
           case atStart => exact ⟨0, rfl, Nat.zero_le _, sto, O4, P4, b4⟩
           case round =>
            obtain ⟨j, rfl, hj, he, hr, hp, hb3⟩ := hrel
            have hsz3 := hb3.size
            by_cases hjl : j < xss.length
            · by_cases hjt : j = piv.length
              · have HJT := Lib.hid hjt
                go_wp2_with fail
                go_roundw
                case rel =>
                 refine ⟨j + 1, by go_num, by omega, ?_, hr, hp, hb3⟩
                 show OwnSQ _ _ _ _ _
                 rw [elimTo, if_pos HJT.out]
                 exact he.out
                case measure => simp only [intOf]; omega
              · have hel := elimTo_len F k piv.length tp j
                have htj : j < tp.length := by rw [HML.out]; exact hjl
                have hje : j < (elimTo F k piv.length tp j).length := by rw [hel]; exact htj
                have hnt : nthL (elimTo F k piv.length tp j) j = nthL tp j := by rw [elimTo_nth j (by omega), if_neg (by omega)]
                have hsu : elimTo F k piv.length tp (j + 1) = (elimTo F k piv.length tp j).set j (less F (nthL tp j) sc (nth (nthL tp j) k)) := by rw [elimTo, if_neg hjt, HMN.out]
                obtain ⟨aj, cj, oj, _, hcj, _, _⟩ := he.out.row hje
                have h3 := hcj gb 0 _ _ rfl
                rw [Nat.zero_add] at h3
                have hm := Mat_nth (unhide HMT) htj
                have rj := oj.rd
                rw [hnt] at h3 rj
                obtain ⟨br2, or2, rfl, hbr2, hcc2⟩ := rj.at_ (by rw [hm.1]; omega)
                have h4 := hcc2 k (by rw [hm.1]; exact hkn)
                have hxe2 := hm.2 _ (nth_mem (k := k) (by rw [hm.1]; exact hkn))
                obtain ⟨z, hZ⟩ : ∃ z, z = nth (nthL tp j) k := ⟨_, rfl⟩
                rw [← hZ] at h4 hxe2 hsu
                obtain ⟨row, hRow⟩ : ∃ row, row = nthL tp j := ⟨_, rfl⟩
                rw [← hRow] at h3 rj hsu hm
                have hle : ∀ W : World, Below wr.heap.size wr W → Calls Tryz.prog 215 #[.pointer (some ⟨g, 0, none⟩), .slice (some ⟨br2, or2, none⟩) n cj, .slice ra n rc, .int .i64 z] W fun e w' => ∃ a3 c3, e = .returned (.slice a3 n c3) ∧ Own w' wr.heap.size (.slice a3 n c3) (less F row sc z) ∧ Below wr.heap.size wr w' := by
                 intro W h
                 have hq := l17Less_any g F (some ⟨br2, or2, none⟩) ra cj rc row sc z W ((hF.below hb3).below h) ok (rj.below h) ((hr.out.rd).below h) (by rw [HSL.out, hm.1]) hxe2.1 hxe2.2 hm.2 (unhide HSE)
                 rw [hm.1, HSL.out] at hq
                 refine hq.mono ?_
                 rintro e w' ⟨v, rfl, o5, b5⟩
                 obtain ⟨a3, c3, rfl, _, _⟩ := o5.form
                 rw [less_len, hm.1] at o5 ⊢
                 exact ⟨_, _, rfl, o5.mono h.size, Below.chain h b5⟩
                rw [hm.1] at h3
                have HLE := hide hle
                have hfz := he.out.own.frozen j
                have HSU := Lib.hid hsu
                clear hZ hRow hm hcc2 rj hcj oj hsu hnt hel hle
                have hbg : gb < wr.heap.size := he.out.lt (by omega)
                go_upto_region 18 with fail
                go_region_with (first
                 | (go_at_call 215; refine (unhide HLE _ ?_).mono ?_; first | exact Below.refl _ _ | exact (Below.refl _ _).drew; rintro e W3 ⟨a3, c3, rfl, o5, b5⟩; have c5 := (b5.cell (p := ⟨gb, j, none⟩) hbg).trans h3; have f5 := (he.out.below b5).own.frozen j))
                all_goals
                 go_wp2
                 go_roundw
                 case rel =>
                  have hpn := he.out.putNew hp.out o5 b5 hsz3 hje
                  have hoo := (he.out.below b5)
                  refine ⟨j + 1, by go_num, by omega, ?_, hoo.others hpn.2 (hr.out.below b5 (Nat.le_refl _)), hoo.others hpn.2 (hp.out.below b5 (Nat.le_refl _)), Below.stepQ (hb3.trans (b5.mono hsz3)) hoo hpn.2 (by have := b5.size; omega)⟩
                  show OwnSQ _ _ _ _ _
                  rw [HSU.out]
                  exact hpn.1
                 case measure => simp only [intOf]; omega
            · have hje : j = xss.length := by omega
              have HJ := Lib.hid hje
              clear hje
              have hpx : piv.length + [(k : Int)].length ≤ 1073741824 := by simp; omega
              go_wp2_with (at_builtin; refine wpList_append_ints rfl (.tmp 105) (.tmp 107) rfl w.heap.size (.slice ua piv.length uc) piv [(k : Int)] rfl (hp.out.alloc _) _ 1 1 rfl rfl (Rd.one wr (k : Int) _) hpx (by simp; omega) ?_; intro v1 w3 hown1 hg1 hc1)
              go_roundw
              case rel =>
               have hS := he.out
               rw [HJ.out] at hS
               refine ⟨k + 1, _, _, by go_num, by omega, HR.out, by show List.length _ = _; rw [elimTo_len, HML.out], by simp; omega, ?_, hown1, Below.step (hb3.alloc hsz3 _) hg1 (hp.out.alloc _) (Nat.le_refl _) (by simp; omega)⟩
               exact (hS.below ((Below.refl _ _).alloc (Nat.le_refl _) _)).grow2 (hp.out.alloc _) hg1 hc1
              case measure => simp only [intOf]; omega
       · have hie : i = xss.length := by omega
         have HI := Lib.hid hie
         clear hie
         go_wp2_with fail
         go_roundw
         case rel =>
          refine ⟨k + 1, rows, piv, by go_num, by omega, ?_, hrl, hpl, hrows, hpiv, hb⟩
          show red F xss (k + 1) = _
          rw [red, hred.out, stepR, if_neg]
          rintro ⟨_, h⟩
          rw [pivAt_none fun j h1 h2 => hz.out j h1 (by rw [HI.out]; rwa [← hrl.out])] at h
          exact Nat.lt_irrefl _ h
         case measure => simp only [intOf]; omega
    · go_wp2_with fail
      go_ret2
      have hr := hred.out
      have h1 := red_full (F := F) (rows := xss) (c := k) (by rw [hr]; exact hpt) hk
      refine ⟨_, _, rfl, ?_, ?_, hb⟩
      · rw [h1, hr]; exact hrows.out
      · rw [h1, hr]; exact hpiv.out
  · have hke : k = n := by omega
    have HE := Lib.hid hke
    clear hke
    go_wp2_with fail
    go_ret2
    have hr := hred.out
    rw [HE.out] at hr
    refine ⟨_, _, rfl, ?_, ?_, hb⟩
    · rw [hr]; exact hrows.out
    · rw [hr]; exact hpiv.out
end Go.Proofs.YtgfcbmflnldicaaGreat
namespace Go.Proofs.YtgfcbmflnldicaaGreat
open Go.RowKit
attribute [local go_sem ↓] Go.wp_at_zero Go.wp_at_succ
def form (F : FD) (xss : List (List Int)) (n : Nat) : List (List Int) := (red F xss n).1.take (red F xss n).2.length
theorem l17Form_any (g : Nat) (F : FD) (a : Option Addr) (c : Nat) (xss : List (List Int)) (n : Nat) (w : World) (hF : PF w g F) (hG : F.Good) (hx : RdS w a xss) (h0 : 0 < xss.length) (hM : F.Mat n xss) :
    Calls Tryz.prog 137 #[.pointer (some ⟨g, 0, none⟩), .slice a xss.length c] w fun e w' => ∃ v, e = .returned v ∧ OwnS w' w.heap.size v (form F xss n) ∧ Below w.heap.size w w' := by
 have hxl := hx.len
 obtain ⟨b0, off, rfl, _, hc⟩ := hx.at_ h0
 obtain ⟨ai, ci, h1, hr⟩ := hc 0 h0
 rw [Nat.add_zero, (Mat_nth hM h0).1] at h1
 have hred := l17Reduce_any g F (some ⟨b0, off, none⟩) c xss n w hF hG hx h0 hM
 have hl1 := red_len F xss n
 have hl2 := red_piv F xss n
 generalize hR : red F xss n = R at hred hl1 hl2
 obtain ⟨rows, piv⟩ := R
 simp only [] at hred hl1 hl2
 have HR := Lib.hid hR
 have HRED := hide hred
 have hrl : 0 < rows.length := by omega
 clear hred hR hc
 go_enter Tryz.func137, Tryz.ntmps137
 go_wp2_with fail
 refine (unhide HRED).mono ?_
 rintro e w1 ⟨v, u, rfl, o1, o2, b1⟩
 obtain ⟨gb, cb, rfl, hgB, hgl, hcb, hcb2⟩ := o1.own.at_ hrl
 obtain ⟨ua, uc, rfl, _, _⟩ := o2.form
 have o3 := o1.own.take (m := piv.length) (by omega)
 have O3 := hide o3
 clear o1 o2 o3
 go_wp2_with fail
 go_ret
 refine ⟨_, rfl, ?_, b1⟩
 rw [form, HR.out]
 exact unhide O3
end Go.Proofs.YtgfcbmflnldicaaGreat
namespace Go.Proofs.YtgfcbmflnldicaaGreat
open Go.RowKit
section
variable {F : FD} {n : Nat} {A B rows : List (List Int)} {pa pb : List Nat}
structure RI (F : FD) (n : Nat) (rows0 : List (List Int)) (c : Nat) (R : List (List Int)) (piv : List Int) (pv : List Nat) : Prop where
 mat : F.Mat n R
 len : R.length = rows0.length
 cast : piv = pv.map fun (x : Nat) => (x : Int)
 ple : pv.length ≤ R.length
 lt : ∀ j, j < pv.length → pv.getD j 0 < c
 mono : ∀ i j, i < j → j < pv.length → pv.getD i 0 < pv.getD j 0
 one : ∀ i j, i < R.length → j < pv.length → nth (nthL R i) (pv.getD j 0) = if i = j then 1 else 0
 lead : ∀ j i, j < pv.length → i < pv.getD j 0 → nth (nthL R j) i = 0
 rest : ∀ i col, pv.length ≤ i → i < R.length → col < c → nth (nthL R i) col = 0
 into : ∀ j, j < rows0.length → Sp F R (nth (nthL rows0 j))
 back : ∀ j, j < R.length → Sp F rows0 (nth (nthL R j))
end
end Go.Proofs.YtgfcbmflnldicaaGreat
namespace Go.Proofs.YtgfcbmflnldicaaGreat
open Go.RowKit
theorem Own.notBlk {w : World} {B g : Nat} {v : Value} {xs : List Int} {t : TypeId} {cs : Array Value} (h : Own w B v xs) (hb : Blk w g t cs) (ht : t ≠ 2) : v.ownBlock ≠ some g := by
 intro hv
 rcases h.2.2 with ⟨rfl, _⟩ | ⟨g', cap', cur', rfl, _, hg', _⟩
 · simp [Value.ownBlock] at hv
 · simp only [Value.ownBlock, Option.some.injEq] at hv
   subst hv
   have hb' : w.heap[g']? = some (.cells cs t (0, 0)) := hb
   rw [hb'] at hg'
   injection hg' with h1
   injection h1 with _ h2
   exact ht h2
theorem OwnSQ.notBlk {w : World} {B g g2 n c : Nat} {yss : List (List Int)} {Q : Value → Prop} {t : TypeId} {cs : Array Value} (h : OwnSQ w B (.slice (some ⟨g, 0, none⟩) n c) yss Q) (hb : Blk w g2 t cs) (ht : t ≠ 24) : g ≠ g2 := by
 rintro rfl
 obtain ⟨_, vs, hr, _⟩ := h
 rcases hr.2 with ⟨hv, _⟩ | ⟨g', cap', cur', hv, _, hg', _⟩
 · injection hv with h0 _ _
   cases h0
 · injection hv with h0 _ _
   injection h0 with h0
   injection h0 with h0 _ _
   subst h0
   have hb' : w.heap[g]? = some (.cells cs t (0, 0)) := hb
   rw [hb'] at hg'
   injection hg' with h1
   injection h1 with _ h2
   exact ht h2
def RS (w : World) (tvs : Array Value) (gb cb gq m : Nat) (rows : List (List Int)) (u : Value) (piv : List Int) (k : Nat) (wr : World) : Prop :=
 OwnSQ wr w.heap.size (.slice (some ⟨gb, 0, none⟩) m cb) rows (NB u) ∧ Own wr w.heap.size u piv ∧ Blk wr gq 3 #[.int .i64 k] ∧ Blk wr w.heap.size 117 tvs ∧ w.heap.size ≤ gq ∧ Below w.heap.size w wr
section
variable {w wr : World} {tvs : Array Value} {gb cb gq m k : Nat} {rows : List (List Int)} {u : Value} {piv : List Int}
theorem RS.row (h : RS w tvs gb cb gq m rows u piv k wr) {i : Nat} (hi : i < rows.length) :
    ∃ a c, Own wr w.heap.size (.slice a (nthL rows i).length c) (nthL rows i) ∧ wr.cell? ⟨gb, i, none⟩ = some (.slice a (nthL rows i).length c) ∧
     (∀ w' ys, Own w' w.heap.size (.slice a (nthL rows i).length c) ys → ys.length = (nthL rows i).length → wr.grownBy w' (Value.ownBlock (.slice a (nthL rows i).length c)) → RS w tvs gb cb gq m (rows.set i ys) u piv k w') ∧
     (∀ j a' c', j < rows.length → j ≠ i → wr.cell? ⟨gb, j, none⟩ = some (.slice a' (nthL rows j).length c') → ∀ q, Value.ownBlock (.slice a' (nthL rows j).length c') = some q → Value.ownBlock (.slice a (nthL rows i).length c) ≠ some q) := by
 obtain ⟨h1, h2, h3, h4, h5, h6⟩ := h
 obtain ⟨a, c, o1, q1, c1, s1, d1⟩ := h1.row hi
 have hc := c1 gb 0 _ _ rfl
 rw [Nat.zero_add] at hc
 refine ⟨a, c, o1, hc, fun w' ys o2 hl hg => ⟨s1 w' ys o2 hl hg, h2.grow hg ?_, h3.grown hg (o1.notBlk h3 (by decide)), h4.grown hg (o1.notBlk h4 (by decide)), h5, Below.step h6 hg o1 (Nat.le_refl _) h6.size⟩, fun j a' c' hj hji hcell q hq => d1 j a' c' hj hji (fun b off m2 d e => ?_) (by simp [Value.ownBlock]) q hq⟩
 · rcases hu : u.ownBlock with _ | ku
   · exact .inl rfl
   · exact .inr fun e => q1 ku e.symm hu
 · injection e with e1 _ _
   injection e1 with e1
   injection e1 with e1 e2 _
   subst e1
   subst e2
   rw [Nat.zero_add]
   exact hcell
theorem RS.swap (h : RS w tvs gb cb gq m rows u piv k wr) {t i : Nat} (ht : t < rows.length) (hi : i < rows.length) (hti : t ≠ i) {x y : Value} (hx : wr.cell? ⟨gb, t, none⟩ = some x) (hy : wr.cell? ⟨gb, i, none⟩ = some y) :
    RS w tvs gb cb gq m (swapped rows t i) u piv k ((wr.setCell ⟨gb, t, none⟩ y).setCell ⟨gb, i, none⟩ x) := by
 obtain ⟨h1, h2, h3, h4, h5, h6⟩ := h
 have e := h1.own.len
 obtain ⟨s1, s2⟩ := h1.swap ht hi hti hx hy
 refine ⟨s1, h1.others s2 h2, h3.grown s2 ?_, h4.grown s2 ?_, h5, Below.stepQ h6 h1 s2 h6.size⟩
 · intro e; injection e with e; exact h1.notBlk h3 (by decide) e
 · intro e; injection e with e; exact h1.notBlk h4 (by decide) e
theorem RS.push (h : RS w tvs gb cb gq m rows u piv k wr) (o : Obj) {u2 : Value} {w3 : World} {ys : List Int} (ho : Own w3 w.heap.size u2 ys) (hg : (wr.alloc o).grownBy w3 u.ownBlock) (hc : u2.ownBlock = u.ownBlock ∨ u2.ownBlock = some (wr.alloc o).heap.size) : RS w tvs gb cb gq m rows u2 ys k w3 := by
 obtain ⟨h1, h2, h3, h4, h5, h6⟩ := h
 have hsz := h6.size
 have ba : Below wr.heap.size wr (wr.alloc o) := (Below.refl _ _).alloc (Nat.le_refl _) _
 have h2a := h2.alloc o
 exact ⟨(h1.below ba).grow2 h2a hg hc, ho, (h3.alloc o).grown hg (h2a.notBlk (h3.alloc o) (by decide)), (h4.alloc o).grown hg (h2a.notBlk (h4.alloc o) (by decide)), h5, Below.step (h6.alloc hsz o) hg h2a (Nat.le_refl _) (by simp; omega)⟩
theorem RS.next (h : RS w tvs gb cb gq m rows u piv k wr) {k2 : Nat} {w2 : World} (hb : Below wr.heap.size wr w2) (hq : Blk w2 wr.heap.size 3 #[.int .i64 k2]) : RS w tvs gb cb wr.heap.size m rows u piv k2 w2 := by
 obtain ⟨h1, h2, h3, h4, h5, h6⟩ := h
 exact ⟨h1.below hb, h2.below hb (Nat.le_refl _), hq, h4.below hb h4.lt, h6.size, h6.trans (hb.mono h6.size)⟩
theorem RS.drew (h : RS w tvs gb cb gq m rows u piv k wr) : RS w tvs gb cb gq m rows u piv k wr.drew := by
 obtain ⟨h1, h2, h3, h4, h5, h6⟩ := h
 exact ⟨h1.below (Below.refl _ _).drew, h2.below (Below.refl wr.heap.size wr).drew (Nat.le_refl _), h3, h4, h5, h6.drew⟩
end
end Go.Proofs.YtgfcbmflnldicaaGreat
namespace Go.Proofs.YtgfcbmflnldicaaGreat
open Go.RowKit
attribute [local go_sem ↓] Go.wp_at_zero Go.wp_at_succ
def cnt (q : Int) (k : Nat) : Int := if capTo q 4096 k ≤ 4096 then capTo q 4096 k else 0
theorem l18Count_any (q k : Int) (w : World) (h1 : 1 ≤ q) (h2 : q ≤ 1000) (hk : k ≤ 9223372036854775807) :
    Calls Tryz.prog 134 #[.int .i64 q, .int .i64 k] w fun e w' => e = .returned (.int .i64 (cnt q k.toNat)) ∧ w = w' := by
 go_enter Tryz.func134, Tryz.ntmps134
 go_wp2
 go_loop [1, 5] (fun kv nv => ∃ (i : Nat) (x y : Int), kv = .int .i64 x ∧ nv = .int .i64 y ∧ Hid (x = k - i) ∧ Hid (y = capTo q 4096 i) ∧ Hid (i ≤ k.toNat) ∧ x ≤ 9223372036854775807 ∧ 1 ≤ y ∧ y ≤ 4096) (fun kv _ => (intOf kv).toNat)
 case atStart => exact ⟨0, k, 1, rfl, rfl, show _ = _ by simp, rfl, Nat.zero_le _, hk, by omega, by omega⟩
 case round =>
  obtain ⟨i, x, y, rfl, rfl, hX, hY, hI, hx, hy, hy2⟩ := hrel
  by_cases h0 : 0 < x
  · have hp1 : 1 ≤ y * q := by have := Int.mul_le_mul hy h1 (by omega) (by omega); omega
    have hp2 : y * q ≤ 4096 * 1000 := Int.mul_le_mul hy2 h2 (by omega) (by omega)
    have hc : capTo q 4096 (i + 1) = y * q := by rw [capTo_go (by rw [← hY.out]; exact hy2), hY.out]
    have HC := Lib.hid hc
    clear hc
    by_cases hl : y * q ≤ 4096
    · go_wp2
      go_round
      case rel => exact ⟨i + 1, x - 1, y * q, rfl, rfl, show _ = _ by have := hX.out; omega, show _ = _ by rw [HC.out], show _ ≤ _ by have := hX.out; omega, by omega, hp1, hl⟩
      case measure => simp [intOf]; omega
    · go_wp2
      go_ret
      have hst := capTo_stop (b := q) (l := 4096) (k := i + 1) (by rw [HC.out]; omega) k.toNat (by have := hX.out; omega)
      refine ⟨ret_int ?_, rfl⟩
      rw [cnt, if_neg (by rw [hst, HC.out]; omega)]
  · go_wp2
    go_ret
    have e : i = k.toNat := by have := hX.out; have := hI.out; omega
    refine ⟨ret_int ?_, rfl⟩
    rw [← e, cnt, if_pos (by rw [← hY.out]; exact hy2), hY.out]
theorem sizeS_any (a : Option Addr) (n c : Nat) (w : World) : Calls Tryz.prog 143 #[.slice a n c] w fun e w' => e = .returned (.int .i64 n) ∧ w = w' := by
 go_enter Tryz.func143, Tryz.ntmps143
 go_wp2
 go_ret
 exact ⟨rfl, rfl⟩
def B3 (W : World) (g : Nat) (t : TypeId) : Prop := ∃ x y z, Blk W g t #[x, y, z]
def B4 (W : World) (g : Nat) (t : TypeId) : Prop := ∃ x y z u, Blk W g t #[x, y, z, u]
theorem Blk.b3 {W : World} {g : Nat} {t : TypeId} {x y z : Value} (h : Blk W g t #[x, y, z]) : B3 W g t := ⟨_, _, _, h⟩
theorem Blk.b4 {W : World} {g : Nat} {t : TypeId} {x y z u : Value} (h : Blk W g t #[x, y, z, u]) : B4 W g t := ⟨_, _, _, _, h⟩
theorem B3.below {W W' : World} {g : Nat} {t : TypeId} (h : B3 W g t) (hb : Below W.heap.size W W') : B3 W' g t := by
 obtain ⟨x, y, z, h⟩ := h
 exact ⟨x, y, z, h.below hb h.lt⟩
theorem B4.below {W W' : World} {g : Nat} {t : TypeId} (h : B4 W g t) (hb : Below W.heap.size W W') : B4 W' g t := by
 obtain ⟨x, y, z, u, h⟩ := h
 exact ⟨x, y, z, u, h.below hb h.lt⟩
theorem B3.drew {W : World} {g : Nat} {t : TypeId} (h : B3 W g t) : B3 W.drew g t := h
theorem B4.drew {W : World} {g : Nat} {t : TypeId} (h : B4 W g t) : B4 W.drew g t := h
theorem B3.store {W : World} {g : Nat} {t : TypeId} (h : B3 W g t) (a b c : Value) : Blk (((W.setCell ⟨g, 0, none⟩ a).setCell ⟨g, 1, none⟩ b).setCell ⟨g, 2, none⟩ c) g t #[a, b, c] := by
 obtain ⟨x, y, z, h⟩ := h
 exact ((h.set_ 0 a).set_ 1 b).set_ 2 c
theorem B4.store {W : World} {g : Nat} {t : TypeId} (h : B4 W g t) (a b c d : Value) : Blk ((((W.setCell ⟨g, 0, none⟩ a).setCell ⟨g, 1, none⟩ b).setCell ⟨g, 2, none⟩ c).setCell ⟨g, 3, none⟩ d) g t #[a, b, c, d] := by
 obtain ⟨x, y, z, u, h⟩ := h
 exact (((h.set_ 0 a).set_ 1 b).set_ 2 c).set_ 3 d
theorem grown_drew1 (w : World) (row : Option Nat) : w.grownBy w.drew row := ⟨rfl, rfl, rfl, Nat.le_refl _, fun _ _ _ => rfl⟩
end Go.Proofs.YtgfcbmflnldicaaGreat
