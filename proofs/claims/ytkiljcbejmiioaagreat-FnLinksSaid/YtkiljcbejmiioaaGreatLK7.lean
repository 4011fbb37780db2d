/-
  Texts joined.
-/
import Derived.IntWalk
import Derived.Test.YtkiljcbejmiioaaGreatLK5
import Derived.Test.YtkiljcbejmiioaaGreatLK6
set_option linter.unusedVariables false
set_option linter.unusedSimpArgs false
set_option maxRecDepth 100000
set_option maxHeartbeats 40000000
namespace Go.Proofs.YtkiljcbejmiioaaGreat
open Go.RowKit
attribute [local go_sem ↓] Go.wp_at_zero Go.wp_at_succ
theorem alloc_le {B : Nat} {w : World} (h : B ≤ w.heap.size) (o : Obj) : B ≤ (w.alloc o).heap.size := by simp; omega
theorem l17Less_any (g : Nat) (F : FD) (a b : Option Addr) (c d : Nat) (xs ys : List Int) (s : Int) (w : World) (hF : PF w g F) (ok : F.Ok) (hx : Rd w a xs) (hy : Rd w b ys) (hl : ys.length = xs.length) (hs0 : 0 ≤ s) (hs1 : s < F.n) (hm : ∀ x ∈ xs, 0 ≤ x ∧ x < F.n) (hm2 : ∀ y ∈ ys, 0 ≤ y ∧ y < F.n) :
    Calls Tryz.prog 127 #[.pointer (some ⟨g, 0, none⟩), .slice a xs.length c, .slice b ys.length d, .int .i64 s] w fun e w' => ∃ v, e = .returned v ∧ Own w' w.heap.size v (less F xs ys s) ∧ Below w.heap.size w w' := by
 obtain ⟨n2, n64⟩ := ok.n_bd
 have hp2 := ok.p2
 have hp64 := ok.p64
 have hxl := hx.len
 have HL := Lib.hid hl
 clear hl
 go_enter Tryz.func127, Tryz.ntmps127
 go_wp2
 go_loopw [9, 10] (fun v iv wr => ∃ (k : Nat), iv = .int .i64 k ∧ k ≤ xs.length ∧ Hid (Own wr w.heap.size v (lessTo F xs ys s k)) ∧ Below w.heap.size w wr) (fun _ iv _ => xs.length - (intOf iv).toNat)
 case atStart => exact ⟨0, rfl, Nat.zero_le _, Own.empty w (Nat.le_refl _), (Below.refl _ _).alloc (Nat.le_refl _) _⟩
 case round =>
  obtain ⟨k, rfl, hk, ho, hb⟩ := hrel
  have hsz := hb.size
  by_cases hkl : k < xs.length
  · have hky : k < ys.length := by rw [HL.out]; exact hkl
    obtain ⟨gb1, ob1, rfl, hbb1, hc1⟩ := hx.at_ (by omega)
    obtain ⟨gb2, ob2, rfl, hbb2, hc2⟩ := hy.at_ (by omega)
    have h1 := hc1 k hkl
    have h2 := hc2 k hky
    have hxr := hm _ (nth_mem hkl)
    have hyr := hm2 _ (nth_mem hky)
    have hst := lessTo_succ F xs ys s k
    generalize nth xs k = x at h1 hxr hst
    generalize nth ys k = y at h2 hyr hst
    have hmul := fun W h => l03Mul_any g F y s W h ok hyr.1 (by omega) hs0 (by omega)
    have hcm : mulF F.p F.k F.poly y s = F.mul s y := mul_comm' ok y s
    rw [hcm] at hmul
    have hMb := mul_bd ok s y
    obtain ⟨M, hM⟩ : ∃ M, M = F.mul s y := ⟨_, rfl⟩
    rw [← hM] at hmul hst hMb
    have hsum := fun W h => l03Sum_any g F x M (F.p - 1) W h ok hxr.1 (by omega) hMb.1 (by omega) (by omega) (by omega)
    have hls : lin (F.p - 1) F.p F.k x M = F.sub x M := lin_sign F.k x M
    rw [hls] at hsum
    obtain ⟨D, hD⟩ : ∃ D, D = F.sub x M := ⟨_, rfl⟩
    rw [← hD] at hsum hst
    have boxes : ∀ (W : World), Below w.heap.size w W → (Below w.heap.size w W ∧ W.cell? ⟨g, 0, none⟩ = some (.int .i64 F.p) ∧ W.cell? ⟨gb1, ob1 + k, none⟩ = some (.int .i64 x) ∧ W.cell? ⟨gb2, ob2 + k, none⟩ = some (.int .i64 y)) := fun _ h =>
     ⟨h, (hF.below h).1, (h.cell (p := ⟨gb1, ob1 + k, none⟩) hbb1).trans h1, (h.cell (p := ⟨gb2, ob2 + k, none⟩) hbb2).trans h2⟩
    have BX := hide boxes
    have HMUL := hide hmul
    have HSUM := hide hsum
    have HST := Lib.hid hst
    have hll := lessTo_len F xs ys s k
    have hA : (lessTo F xs ys s k).length + [D].length ≤ 1073741824 := by rw [hll]; simp; omega
    clear boxes hmul hsum hcm hls hst hM hD hc1 hc2 h1 h2 hll
    have hwr : IntKind.i64.wrap (F.p - 1) = F.p - 1 := IntWalk.i64_in _ (by omega)
    go_upto_region 5 with fail
    go_region_held3 (fun W => Below w.heap.size w W ∧ W.cell? ⟨g, 0, none⟩ = some (.int .i64 F.p) ∧ W.cell? ⟨gb1, ob1 + k, none⟩ = some (.int .i64 x) ∧ W.cell? ⟨gb2, ob2 + k, none⟩ = some (.int .i64 y))
     (first | exact (unhide BX) _ hb | exact (unhide BX) _ (hb.drew) | exact (unhide BX) _ (by assumption) | exact (unhide BX) _ hB4 | exact (unhide BX) _ (hB2.alloc hZ2 _))
     (first
      | (go_at_call 135; refine (unhide HMUL _ ?_).mono ?_; exact hF.below (And.left (by assumption)); rintro e W1 ⟨rfl, b1⟩; have hB1 := Below.chain (a := w) (And.left (by assumption)) b1; have hQ1 := b1.size)
      | (go_at_call 44; refine (unhide HSUM _ ?_).mono ?_; exact hF.below hB1; rintro e W2 ⟨rfl, b2⟩; have hB2 := Below.chain hB1 b2; have hQ2 := b2.size; have hZ2 := hB2.size; have o2 := (ho.out.drewN 1).below (b1.trans (b2.mono hQ1)) (Nat.le_refl _))
      | (refine step_append_ints (ys := [D]) rfl (.tmp 18) (.tmp 37) rfl rfl (o2.alloc _) _ 1 1 rfl rfl (Rd.one W2 D _) hA (alloc_le hZ2 _) ?_; intro v4 W4 o4 g4 _; have hB4 := Below.step (hB2.alloc hZ2 _) g4 (o2.alloc _) (Nat.le_refl _) (alloc_le hZ2 _)))
    clear hwr
    have hb4 := hB4
    clear BX HMUL HSUM hB1 hB2 hB4
    go_wp2
    go_roundw
    case rel => exact ⟨k + 1, by go_num, by omega, by show Own _ _ _ _; rw [HST.out]; exact o4, hb4⟩
    case measure => simp only [intOf]; omega
  · have hke : k = xs.length := by omega
    have HE := Lib.hid hke
    clear hke
    go_wp2
    go_ret
    exact ⟨_, rfl, by have o := ho.out; rw [HE.out] at o; exact o, hb⟩
end Go.Proofs.YtkiljcbejmiioaaGreat
namespace Go.Proofs.YtkiljcbejmiioaaGreat
open Go.RowKit
attribute [local go_sem ↓] Go.wp_at_zero Go.wp_at_succ
def NB (u x : Value) : Prop := ∀ k, x.ownBlock = some k → u.ownBlock ≠ some k
theorem OwnSQ.grow2 {w w' : World} {B B' : Nat} {v u u2 : Value} {yss : List (List Int)} {us : List Int} (h : OwnSQ w B v yss (NB u)) (hu : Own w B' u us) (hg : w.grownBy w' u.ownBlock) (hc : u2.ownBlock = u.ownBlock ∨ u2.ownBlock = some w.heap.size) : OwnSQ w' B v yss (NB u2) := by
 have h2 : OwnSQ w B v yss (fun x => NB u x ∧ NB u2 x) := h.imp fun x hlt hq => ⟨hq, fun k hk => by
  rcases hc with e | e
  · rw [e]; exact hq k hk
  · rw [e]; intro e2; injection e2 with e2; have := hlt k hk; omega⟩
 exact (h2.grow hu hg fun x q => q.1).imp fun x _ q => q.2
theorem OwnSQ.lt {w : World} {B g n c : Nat} {yss : List (List Int)} {Q : Value → Prop} (h : OwnSQ w B (.slice (some ⟨g, 0, none⟩) n c) yss Q) (h0 : 0 < yss.length) : g < w.heap.size := by
 obtain ⟨g', c', e, _, h1, _⟩ := h.own.at_ h0
 injection e with e _ _
 injection e with e
 injection e with e _ _
 omega
theorem OwnSQ.cellOf {w : World} {B g n c : Nat} {yss : List (List Int)} {Q : Value → Prop} (h : OwnSQ w B (.slice (some ⟨g, 0, none⟩) n c) yss Q) {i : Nat} (hi : i < yss.length) : ∃ y c', w.cell? ⟨g, i, none⟩ = some (.slice y (nthL yss i).length c') := by
 obtain ⟨a, c', _, _, h1, _⟩ := h.row hi
 have := h1 g 0 _ _ rfl
 rw [Nat.zero_add] at this
 exact ⟨_, _, this⟩
theorem OwnSQ.others {w w' : World} {B B2 g n c : Nat} {yss : List (List Int)} {Q : Value → Prop} {x : Value} {xs : List Int} (h : OwnSQ w B (.slice (some ⟨g, 0, none⟩) n c) yss Q) (hg : w.grownBy w' (some g)) (ho : Own w B2 x xs) : Own w' B2 x xs := by
 obtain ⟨_, vs, hr, _⟩ := h
 exact row_grow hr hg ho
theorem Below.stepQ {a w w' : World} {B g n c : Nat} {yss : List (List Int)} {Q : Value → Prop} (hb : Below B a w) (h : OwnSQ w B (.slice (some ⟨g, 0, none⟩) n c) yss Q) (hg : w.grownBy w' (some g)) (hB : B ≤ w.heap.size) : Below B a w' := Below.stepS (v := .slice (some ⟨g, 0, none⟩) n c) hb hg h.own (Nat.le_refl _) hB
theorem OwnSQ.cell2 {w : World} {B g n c : Nat} {yss : List (List Int)} {Q : Value → Prop} {y : Value} (h : OwnSQ w B (.slice (some ⟨g, 0, none⟩) n c) yss Q) {t : Nat} (ht : t < yss.length) (i : Nat) (hy : w.cell? ⟨g, t, none⟩ = some y) : (w.setCell ⟨g, i, none⟩ y).cell? ⟨g, t, none⟩ = some y := by
 have e := h.own.len
 subst e
 obtain ⟨_, vs, hr, hin, _⟩ := h
 obtain ⟨h1, _⟩ := hr.stored i y
 have hv : vs[t]? = some y := by rw [← hr.cellAt t (by omega)]; exact hy
 rw [h1.cellAt t (by omega)]
 by_cases e : i = t
 · subst e
   rw [List.getElem?_set_self (by rw [hin.1]; exact ht)]
 · rw [List.getElem?_set_ne e, hv]
theorem OwnSQ.putNew {w w' : World} {B g n c : Nat} {u r : Value} {yss : List (List Int)} {us ys : List Int} (h : OwnSQ w B (.slice (some ⟨g, 0, none⟩) n c) yss (NB u)) (hu : Own w B u us) (hr : Own w' w.heap.size r ys) (hb : Below w.heap.size w w') (hB : B ≤ w.heap.size) {j : Nat} (hj : j < yss.length) :
    OwnSQ (w'.setCell ⟨g, j, none⟩ r) B (.slice (some ⟨g, 0, none⟩) n c) (yss.set j ys) (NB u) ∧ w'.grownBy (w'.setCell ⟨g, j, none⟩ r) (some g) := by
 have h2 : OwnSQ w B (.slice (some ⟨g, 0, none⟩) n c) yss (fun x => NB u x ∧ ∀ k, x.ownBlock = some k → k < w.heap.size) := h.imp fun x hlt hq => ⟨hq, hlt⟩
 refine (h2.below hb).put hr hB (fun x q => q.2) ?_ (fun x q => q.1) hj
 intro k hk e
 have a1 := (hr.lt k hk).1
 have a2 := (hu.lt k e).2
 omega
theorem OwnSQ.put2New {w w' : World} {B g n c : Nat} {u r y : Value} {yss : List (List Int)} {us ys : List Int} (h : OwnSQ w B (.slice (some ⟨g, 0, none⟩) n c) yss (NB u)) (hu : Own w B u us) (hr : Own w' w.heap.size r ys) (hb : Below w.heap.size w w') (hB : B ≤ w.heap.size) {i t : Nat} (hi : i < yss.length) (ht : t < yss.length) (hy : w'.cell? ⟨g, t, none⟩ = some y) :
    OwnSQ ((w'.setCell ⟨g, i, none⟩ y).setCell ⟨g, t, none⟩ r) B (.slice (some ⟨g, 0, none⟩) n c) ((yss.set i (nthL yss t)).set t ys) (NB u) ∧ w'.grownBy ((w'.setCell ⟨g, i, none⟩ y).setCell ⟨g, t, none⟩ r) (some g) := by
 have h2 : OwnSQ w B (.slice (some ⟨g, 0, none⟩) n c) yss (fun x => NB u x ∧ ∀ k, x.ownBlock = some k → k < w.heap.size) := h.imp fun x hlt hq => ⟨hq, hlt⟩
 refine (h2.below hb).put2 hr hB (fun x q => q.2) ?_ (fun x q => q.1) hi ht hy
 intro k hk e
 have a1 := (hr.lt k hk).1
 have a2 := (hu.lt k e).2
 omega
theorem l17Reduce_any (g : Nat) (F : FD) (a : Option Addr) (c : Nat) (xss : List (List Int)) (n : Nat) (w : World) (hF : PF w g F) (hG : F.Good) (hx : RdS w a xss) (h0 : 0 < xss.length) (hM : F.Mat n xss) :
    Calls Tryz.prog 125 #[.pointer (some ⟨g, 0, none⟩), .slice a xss.length c, .int .i64 n] w fun e w' => ∃ v u, e = .returned (.tuple #[v, u]) ∧ OwnSQ w' w.heap.size v (red F xss n).1 (NB u) ∧ Own w' w.heap.size u (red F xss n).2 ∧ Below w.heap.size w w' := by
 have ok := hG.ok
 obtain ⟨n2, n64⟩ := ok.n_bd
 have hxl := hx.len
 have hn : n ≤ 1073741824 := by
  obtain ⟨b, off, _, _, hc⟩ := hx.at_ h0
  obtain ⟨ai, ci, _, hr⟩ := hc 0 h0
  have := hr.len
  rwa [(Mat_nth hM h0).1] at this
 go_enter Tryz.func125, Tryz.ntmps125
 go_wp2_with fail
 refine (l17Own_any a c xss w hx).mono ?_
 rintro e w1 ⟨v1, rfl, o1, b1⟩
 obtain ⟨gb, cb, rfl, hgB, hgl, hcb, hcb2⟩ := o1.at_ h0
 have hs1 := b1.size
 have q1 : OwnSQ (w1.alloc (.cells #[] 2)) w.heap.size (.slice (some ⟨gb, 0, none⟩) xss.length cb) xss (NB (.slice (some ⟨w1.heap.size, 0, none⟩) 0 0)) := (o1.toQ (Q := fun x => ∀ k, x.ownBlock = some k → k < w1.heap.size) (fun x hx k hk => (hx k hk).2)).below ((Below.refl _ _).alloc (Nat.le_refl _) _) |>.imp fun x _ hq k hk e => by
  have e : some w1.heap.size = some k := e
  injection e with e
  have := hq k hk
  omega
 have Q1 := hide q1
 clear q1 o1
 go_wp2_with fail
 go_loopw [9, 10] (fun u iv wr => ∃ (k : Nat) (rows : List (List Int)) (piv : List Int), iv = .int .i64 k ∧ k ≤ n ∧ Hid (red F xss k = (rows, piv)) ∧ Hid (rows.length = xss.length) ∧ piv.length ≤ xss.length ∧ Hid (OwnSQ wr w.heap.size (.slice (some ⟨gb, 0, none⟩) xss.length cb) rows (NB u)) ∧ Hid (Own wr w.heap.size u piv) ∧ Below w.heap.size w wr) (fun _ iv _ => n - (intOf iv).toNat)
 case atStart => exact ⟨0, xss, [], rfl, Nat.zero_le _, rfl, rfl, Nat.zero_le _, unhide Q1, Own.empty w1 hs1, b1.alloc hs1 _⟩
 case round =>
  obtain ⟨k, rows, piv, rfl, hk, hred, hrl, hpl, hrows, hpiv, hb⟩ := hrel
  obtain ⟨ua, uc, rfl, _, _⟩ := hpiv.out.form
  have hsz := hb.size
  by_cases hkn : k < n
  · by_cases hpt : piv.length < xss.length
    · have hMr : F.Mat n rows := by have h := red_Mat ok hM k; rw [hred.out] at h; exact h
      have HMr := hide hMr
      clear hMr
      obtain ⟨wo, rfl⟩ : ∃ wo : World, wo = wr := ⟨_, rfl⟩
      go_wp2_with fail
      go_loop [12] (fun iv => ∃ i : Nat, iv = .int .i64 i ∧ piv.length ≤ i ∧ i ≤ xss.length ∧ Hid (∀ j, piv.length ≤ j → j < i → nth (nthL rows j) k = 0)) (fun iv => xss.length - (intOf iv).toNat)
      case atStart => exact ⟨piv.length, rfl, Nat.le_refl _, hpl, fun j h1 h2 => by omega⟩
      case round =>
       obtain ⟨i, rfl, hti, hi, hz⟩ := hrel
       by_cases hil : i < xss.length
       · have hir : i < rows.length := by rw [hrl.out]; exact hil
         obtain ⟨ai, ci, oi, _, hci, _, _⟩ := hrows.out.row hir
         have h1 := hci gb 0 _ _ rfl
         rw [Nat.zero_add] at h1
         have hm := Mat_nth (unhide HMr) hir
         obtain ⟨br, orr, rfl, hbr, hcc⟩ := oi.rd.at_ (by rw [hm.1]; omega)
         have h2 := hcc k (by rw [hm.1]; exact hkn)
         have RI := hide oi.rd
         have hxe := hm.2 _ (nth_mem (k := k) (by rw [hm.1]; exact hkn))
         obtain ⟨x, hX⟩ : ∃ x, x = nth (nthL rows i) k := ⟨_, rfl⟩
         rw [← hX] at h2 hxe
         have HX := Lib.hid hX
         have HM1 := Lib.hid hm.1
         have HM2 := hide hm.2
         rw [hm.1] at h1
         clear hX hm hcc hci oi
         by_cases hx0 : x = 0
         · subst hx0
           go_wp2_with fail
           go_round
           case rel =>
            refine ⟨i + 1, by go_num, by omega, by omega, fun j h3 h4 => ?_⟩
            rcases Nat.lt_succ_iff_lt_or_eq.1 h4 with h | rfl
            · exact hz.out j h3 h
            · exact HX.out.symm
           case measure => simp only [intOf]; omega
         · go_upto_region 11 with fail
           have hF' := hF.below hb
           have hx1 : 1 ≤ x := by omega
           have hvb := inv_spec hG hx1 hxe.2
           have hinv := fun W h => l03Inverse_any g F x W h hG hx1 hxe.2
           obtain ⟨y, hY⟩ : ∃ y, y = F.inv x := ⟨_, rfl⟩
           rw [← hY] at hinv hvb
           have hsc := fun W h h' => l17Scale_any g F (some ⟨br, orr, none⟩) ci (nthL rows i) y W h ok h' (by omega) hvb.2.2.1 (unhide HM2)
           rw [HM1.out] at hsc
           obtain ⟨sc, hS⟩ : ∃ sc, sc = scale F y (nthL rows i) := ⟨_, rfl⟩
           have hscl : sc.length = n := by rw [hS, scale_len]; exact HM1.out
           rw [← hS] at hsc
           have hbb : gb < wo.heap.size := hrows.out.lt (by omega)
           have boxes : ∀ (W : World), Below wo.heap.size wo W → (Below wo.heap.size wo W ∧ W.cell? ⟨gb, i, none⟩ = some (.slice (some ⟨br, orr, none⟩) n ci) ∧ W.cell? ⟨br, orr + k, none⟩ = some (.int .i64 x)) := fun _ h =>
            ⟨h, (h.cell (p := ⟨gb, i, none⟩) hbb).trans h1, (h.cell (p := ⟨br, orr + k, none⟩) hbr).trans h2⟩
           have BX := hide boxes
           have HINV := hide hinv
           have HSC := hide hsc
           have HY := Lib.hid hY
           have HS := Lib.hid hS
           have RD : ∀ W, Below wo.heap.size wo W → Rd W (some ⟨br, orr, none⟩) (nthL rows i) := fun W h => (unhide RI).below h
           have RDH := hide RD
           clear boxes hinv hsc hY hS RD hvb
           go_region_held3 (fun W => Below wo.heap.size wo W ∧ W.cell? ⟨gb, i, none⟩ = some (.slice (some ⟨br, orr, none⟩) n ci) ∧ W.cell? ⟨br, orr + k, none⟩ = some (.int .i64 x))
            (first | exact (unhide BX) _ (Below.refl _ _) | exact (unhide BX) _ ((Below.refl _ _).drew) | exact (unhide BX) _ (by assumption))
            (first
             | (go_at_call 143; refine (unhide HINV _ ?_).mono ?_; exact hF'.below (And.left (by assumption)); rintro e W1 ⟨rfl, bb1⟩; have hB1 := Below.chain (a := wo) (And.left (by assumption)) bb1)
             | (go_at_call 97; refine (unhide HSC _ ?_ ?_).mono ?_; exact hF'.below hB1; exact (unhide RDH) _ hB1; rintro e W2 ⟨r, rfl, o2, bb2⟩; have hB2 := Below.chain hB1 bb2; have hQ1 := hB1.size; have o3 := o2.mono hQ1))
           clear BX HINV HSC hB1 bb2 o2 hQ1
           have htr : piv.length < rows.length := by rw [hrl.out]; exact hpt
           obtain ⟨qa, qc, hq⟩ := (hrows.out.below hB2).cellOf htr
           rw [(Mat_nth (unhide HMr) htr).1] at hq
           have hsto := hrows.out.put2New hpiv.out o3 hB2 hsz hir htr hq
           have hfz1 := (hrows.out.below hB2).own.frozen i
           have o4 := (hrows.out.below hB2).others hsto.2 o3
           have p4 := (hrows.out.below hB2).others hsto.2 (hpiv.out.below hB2 (Nat.le_refl _))
           have b4 := Below.stepQ (hb.trans (hB2.mono hsz)) (hrows.out.below hB2) hsto.2 (by have := hB2.size; omega)
           have hcl2 := (hrows.out.below hB2).cell2 htr i hq
           have f5 := fun j => hsto.1.own.frozen j
           have hfz2 : (W2.setCell ⟨gb, i, none⟩ (.slice qa n qc)).frozen? ⟨gb, piv.length, none⟩ = false := by simpa using (hrows.out.below hB2).own.frozen piv.length
           have hgt : (nthL rows piv.length).length = n ∧ True := ⟨(Mat_nth (unhide HMr) htr).1, trivial⟩
           have hMt := topped_Mat (c := k) (t := piv.length) ok (unhide HMr) hir htr
           have hMl := topped_len F k piv.length rows i
           have hMn := nthL_set_same (xss := rows.set i (nthL rows piv.length)) (i := piv.length) (by rw [List.length_set]; exact htr) sc
           have hR : red F xss (k + 1) = (elimTo F k piv.length (topped F k piv.length rows i) rows.length, piv ++ [(k : Int)]) := by
            have hpv : pivAt rows k piv.length = i := pivAt_hit hti hir (by rw [← HX.out]; exact hx0) (fun j h1 h2 => hz.out j h1 h2)
            rw [red, hred.out, stepR]
            show (if piv.length < rows.length ∧ pivAt rows k piv.length < rows.length then (redOne F k piv.length rows (pivAt rows k piv.length), piv ++ [(k : Int)]) else (rows, piv)) = _
            rw [hpv, if_pos ⟨htr, hir⟩, redOne]
           have ht1 : topped F k piv.length rows i = (rows.set i (nthL rows piv.length)).set piv.length sc := by rw [topped, ← HX.out, ← HY.out, ← HS.out]
           rw [ht1] at hMt hMl hR
           rw [hrl.out] at hMl hR
           obtain ⟨tp, hTP⟩ : ∃ tp, tp = (rows.set i (nthL rows piv.length)).set piv.length sc := ⟨_, rfl⟩
           rw [← hTP] at hMt hMl hMn hR hsto
           obtain ⟨ra, rc, rfl, _, _⟩ := o3.form
           rw [hscl] at hsto o4 p4 b4 ⊢
           have sto := hide hsto.1
           have HMT := hide hMt
           have HML := Lib.hid hMl
           have HMN := Lib.hid hMn
           have HR := Lib.hid hR
           have O4 := hide o4
           have P4 := hide p4
           have hscle : ∀ z ∈ sc, 0 ≤ z ∧ z < F.n := by rw [HS.out]; exact scale_el ok _ _
           have HSE := hide hscle
           have HSL := Lib.hid hscl
           clear hMt hMl hMn hR ht1 hTP hsto o4 p4 hscle o3 f5 hgt
           go_wp2_with fail
           go_loopw [14] (fun jv wr => ∃ j : Nat, jv = .int .i64 j ∧ j ≤ xss.length ∧ Hid (OwnSQ wr w.heap.size (.slice (some ⟨gb, 0, none⟩) xss.length cb) (elimTo F k piv.length tp j) (NB (.slice ua piv.length uc))) ∧ Hid (Own wr wo.heap.size (.slice ra n rc) sc) ∧ Hid (Own wr w.heap.size (.slice ua piv.length uc) piv) ∧ Below w.heap.size w wr) (fun jv _ => xss.length - (intOf jv).toNat)
           case atStart => exact ⟨0, rfl, Nat.zero_le _, sto, O4, P4, b4⟩
           case round =>
            obtain ⟨j, rfl, hj, he, hr, hp, hb3⟩ := hrel
            have hsz3 := hb3.size
            by_cases hjl : j < xss.length
            · by_cases hjt : j = piv.length
              · have HJT := Lib.hid hjt
                go_wp2_with fail
                go_roundw
                case rel =>
                 refine ⟨j + 1, by go_num, by omega, ?_, hr, hp, hb3⟩
                 show OwnSQ _ _ _ _ _
                 rw [elimTo, if_pos HJT.out]
                 exact he.out
                case measure => simp only [intOf]; omega
              · have hel := elimTo_len F k piv.length tp j
                have htj : j < tp.length := by rw [HML.out]; exact hjl
                have hje : j < (elimTo F k piv.length tp j).length := by rw [hel]; exact htj
                have hnt : nthL (elimTo F k piv.length tp j) j = nthL tp j := by rw [elimTo_nth j (by omega), if_neg (by omega)]
                have hsu : elimTo F k piv.length tp (j + 1) = (elimTo F k piv.length tp j).set j (less F (nthL tp j) sc (nth (nthL tp j) k)) := by rw [elimTo, if_neg hjt, HMN.out]
                obtain ⟨aj, cj, oj, _, hcj, _, _⟩ := he.out.row hje
                have h3 := hcj gb 0 _ _ rfl
                rw [Nat.zero_add] at h3
                have hm := Mat_nth (unhide HMT) htj
                have rj := oj.rd
                rw [hnt] at h3 rj
                obtain ⟨br2, or2, rfl, hbr2, hcc2⟩ := rj.at_ (by rw [hm.1]; omega)
                have h4 := hcc2 k (by rw [hm.1]; exact hkn)
                have hxe2 := hm.2 _ (nth_mem (k := k) (by rw [hm.1]; exact hkn))
                obtain ⟨z, hZ⟩ : ∃ z, z = nth (nthL tp j) k := ⟨_, rfl⟩
                rw [← hZ] at h4 hxe2 hsu
                obtain ⟨row, hRow⟩ : ∃ row, row = nthL tp j := ⟨_, rfl⟩
                rw [← hRow] at h3 rj hsu hm
                have hle : ∀ W : World, Below wr.heap.size wr W → Calls Tryz.prog 127 #[.pointer (some ⟨g, 0, none⟩), .slice (some ⟨br2, or2, none⟩) n cj, .slice ra n rc, .int .i64 z] W fun e w' => ∃ a3 c3, e = .returned (.slice a3 n c3) ∧ Own w' wr.heap.size (.slice a3 n c3) (less F row sc z) ∧ Below wr.heap.size wr w' := by
                 intro W h
                 have hq := l17Less_any g F (some ⟨br2, or2, none⟩) ra cj rc row sc z W ((hF.below hb3).below h) ok (rj.below h) ((hr.out.rd).below h) (by rw [HSL.out, hm.1]) hxe2.1 hxe2.2 hm.2 (unhide HSE)
                 rw [hm.1, HSL.out] at hq
                 refine hq.mono ?_
                 rintro e w' ⟨v, rfl, o5, b5⟩
                 obtain ⟨a3, c3, rfl, _, _⟩ := o5.form
                 rw [less_len, hm.1] at o5 ⊢
                 exact ⟨_, _, rfl, o5.mono h.size, Below.chain h b5⟩
                rw [hm.1] at h3
                have HLE := hide hle
                have hfz := he.out.own.frozen j
                have HSU := Lib.hid hsu
                clear hZ hRow hm hcc2 rj hcj oj hsu hnt hel hle
                have hbg : gb < wr.heap.size := he.out.lt (by omega)
                go_upto_region 18 with fail
                go_region_with (first
                 | (go_at_call 127; refine (unhide HLE _ ?_).mono ?_; first | exact Below.refl _ _ | exact (Below.refl _ _).drew; rintro e W3 ⟨a3, c3, rfl, o5, b5⟩; have c5 := (b5.cell (p := ⟨gb, j, none⟩) hbg).trans h3; have f5 := (he.out.below b5).own.frozen j))
                all_goals
                 go_wp2
                 go_roundw
                 case rel =>
                  have hpn := he.out.putNew hp.out o5 b5 hsz3 hje
                  have hoo := (he.out.below b5)
                  refine ⟨j + 1, by go_num, by omega, ?_, hoo.others hpn.2 (hr.out.below b5 (Nat.le_refl _)), hoo.others hpn.2 (hp.out.below b5 (Nat.le_refl _)), Below.stepQ (hb3.trans (b5.mono hsz3)) hoo hpn.2 (by have := b5.size; omega)⟩
                  show OwnSQ _ _ _ _ _
                  rw [HSU.out]
                  exact hpn.1
                 case measure => simp only [intOf]; omega
            · have hje : j = xss.length := by omega
              have HJ := Lib.hid hje
              clear hje
              have hpx : piv.length + [(k : Int)].length ≤ 1073741824 := by simp; omega
              go_wp2_with (at_builtin; refine wpList_append_ints rfl (.tmp 105) (.tmp 107) rfl w.heap.size (.slice ua piv.length uc) piv [(k : Int)] rfl (hp.out.alloc _) _ 1 1 rfl rfl (Rd.one wr (k : Int) _) hpx (by simp; omega) ?_; intro v1 w3 hown1 hg1 hc1)
              go_roundw
              case rel =>
               have hS := he.out
               rw [HJ.out] at hS
               refine ⟨k + 1, _, _, by go_num, by omega, HR.out, by show List.length _ = _; rw [elimTo_len, HML.out], by simp; omega, ?_, hown1, Below.step (hb3.alloc hsz3 _) hg1 (hp.out.alloc _) (Nat.le_refl _) (by simp; omega)⟩
               exact (hS.below ((Below.refl _ _).alloc (Nat.le_refl _) _)).grow2 (hp.out.alloc _) hg1 hc1
              case measure => simp only [intOf]; omega
       · have hie : i = xss.length := by omega
         have HI := Lib.hid hie
         clear hie
         go_wp2_with fail
         go_roundw
         case rel =>
          refine ⟨k + 1, rows, piv, by go_num, by omega, ?_, hrl, hpl, hrows, hpiv, hb⟩
          show red F xss (k + 1) = _
          rw [red, hred.out, stepR, if_neg]
          rintro ⟨_, h⟩
          rw [pivAt_none fun j h1 h2 => hz.out j h1 (by rw [HI.out]; rwa [← hrl.out])] at h
          exact Nat.lt_irrefl _ h
         case measure => simp only [intOf]; omega
    · go_wp2_with fail
      go_ret2
      have hr := hred.out
      have h1 := red_full (F := F) (rows := xss) (c := k) (by rw [hr]; exact hpt) hk
      refine ⟨_, _, rfl, ?_, ?_, hb⟩
      · rw [h1, hr]; exact hrows.out
      · rw [h1, hr]; exact hpiv.out
  · have hke : k = n := by omega
    have HE := Lib.hid hke
    clear hke
    go_wp2_with fail
    go_ret2
    have hr := hred.out
    rw [HE.out] at hr
    refine ⟨_, _, rfl, ?_, ?_, hb⟩
    · rw [hr]; exact hrows.out
    · rw [hr]; exact hpiv.out
end Go.Proofs.YtkiljcbejmiioaaGreat
namespace Go.Proofs.YtkiljcbejmiioaaGreat
open Go.RowKit
attribute [local go_sem ↓] Go.wp_at_zero Go.wp_at_succ
def form (F : FD) (xss : List (List Int)) (n : Nat) : List (List Int) := (red F xss n).1.take (red F xss n).2.length
theorem form_len (F : FD) (xss : List (List Int)) (n : Nat) : (form F xss n).length = (red F xss n).2.length := by
 have := red_piv F xss n
 rw [form, List.length_take, red_len]
 omega
theorem form_Mat {F : FD} (ok : F.Ok) {n : Nat} {xss : List (List Int)} (h : F.Mat n xss) : F.Mat n (form F xss n) := fun xs hx => red_Mat ok h n xs (List.mem_of_mem_take hx)
theorem l17Form_any (g : Nat) (F : FD) (a : Option Addr) (c : Nat) (xss : List (List Int)) (n : Nat) (w : World) (hF : PF w g F) (hG : F.Good) (hx : RdS w a xss) (h0 : 0 < xss.length) (hM : F.Mat n xss) :
    Calls Tryz.prog 82 #[.pointer (some ⟨g, 0, none⟩), .slice a xss.length c] w fun e w' => ∃ v, e = .returned v ∧ OwnS w' w.heap.size v (form F xss n) ∧ Below w.heap.size w w' := by
 have hxl := hx.len
 obtain ⟨b0, off, rfl, _, hc⟩ := hx.at_ h0
 obtain ⟨ai, ci, h1, hr⟩ := hc 0 h0
 rw [Nat.add_zero, (Mat_nth hM h0).1] at h1
 have hred := l17Reduce_any g F (some ⟨b0, off, none⟩) c xss n w hF hG hx h0 hM
 have hl1 := red_len F xss n
 have hl2 := red_piv F xss n
 generalize hR : red F xss n = R at hred hl1 hl2
 obtain ⟨rows, piv⟩ := R
 simp only [] at hred hl1 hl2
 have HR := Lib.hid hR
 have HRED := hide hred
 have hrl : 0 < rows.length := by omega
 clear hred hR hc
 go_enter Tryz.func82, Tryz.ntmps82
 go_wp2_with fail
 refine (unhide HRED).mono ?_
 rintro e w1 ⟨v, u, rfl, o1, o2, b1⟩
 obtain ⟨gb, cb, rfl, hgB, hgl, hcb, hcb2⟩ := o1.own.at_ hrl
 obtain ⟨ua, uc, rfl, _, _⟩ := o2.form
 have o3 := o1.own.take (m := piv.length) (by omega)
 have O3 := hide o3
 clear o1 o2 o3
 go_wp2_with fail
 go_ret
 refine ⟨_, rfl, ?_, b1⟩
 rw [form, HR.out]
 exact unhide O3
end Go.Proofs.YtkiljcbejmiioaaGreat
namespace Go.Proofs.YtkiljcbejmiioaaGreat
open Go.RowKit
section
variable {F : FD} {n : Nat} {A B rows : List (List Int)} {pa pb : List Nat}
theorem getD_mem {p : List Nat} {j : Nat} (h : j < p.length) : p.getD j 0 ∈ p := by
 rw [List.getD_eq_getElem?_getD, List.getElem?_eq_getElem h]; exact List.getElem_mem h
theorem mem_getD {p : List Nat} {x : Nat} (h : x ∈ p) : ∃ j, j < p.length ∧ p.getD j 0 = x := by
 obtain ⟨j, hj, rfl⟩ := List.getElem_of_mem h
 exact ⟨j, hj, by rw [List.getD_eq_getElem?_getD, List.getElem?_eq_getElem hj]; rfl⟩
theorem Ech.sub_piv (ok : F.Ok) (hA : Ech F n A pa) (hB : Ech F n B pb) (h : ∀ v, Sp F A v → Sp F B v) {x : Nat} (hx : x ∈ pa) : x ∈ pb := by
 obtain ⟨j, hj, rfl⟩ := mem_getD hx
 have hj' : j < A.length := by rw [← hA.len]; exact hj
 refine hB.lead_piv ok (h _ (Sp.row ok hA.mat hj')) ?_ (fun i hi => hA.lead j i hj hi)
 rw [hA.one j j hj hj, if_pos rfl]; decide
theorem Ech.piv_eq (ok : F.Ok) (hA : Ech F n A pa) (hB : Ech F n B pb) (h : ∀ v, Sp F A v ↔ Sp F B v) : pa = pb :=
 sorted_ext hA.mono hB.mono fun _ => ⟨fun hx => hA.sub_piv ok hB (fun v => (h v).1) hx, fun hx => hB.sub_piv ok hA (fun v => (h v).2) hx⟩
theorem Ech.unique (ok : F.Ok) (hA : Ech F n A pa) (hB : Ech F n B pb) (h : ∀ v, Sp F A v ↔ Sp F B v) : A = B := by
 have hp := hA.piv_eq ok hB h
 subst hp
 refine eq_of_nthL (by rw [← hA.len, ← hB.len]) fun j hj => ?_
 have hj' : j < B.length := by rw [← hB.len, hA.len]; exact hj
 have hjp : j < pa.length := by rw [hA.len]; exact hj
 refine eq_of_nth (by rw [(Mat_nth hA.mat hj).1, (Mat_nth hB.mat hj').1]) fun i _ => ?_
 have hu := (Sp.row ok hA.mat hj).sub ok ((h _).2 (Sp.row ok hB.mat hj')) 1
 have hz : F.sub (nth (nthL A j) i) (F.mul 1 (nth (nthL B j) i)) = 0 := hA.zero_of ok hu (fun l hl => by
  show F.sub (nth (nthL A j) (pa.getD l 0)) (F.mul 1 (nth (nthL B j) (pa.getD l 0))) = 0
  rw [hA.one j l hjp hl, hB.one j l hjp hl]
  split
  · rw [one_mul' ok (one_el ok), sub_self' ok]
  · rw [mul_zero_all ok, sub_self' ok]) i
 rw [one_mul' ok (nth_el ok hB.mat hj' i)] at hz
 exact eq_of_sub ok (nth_el ok hA.mat hj i) (nth_el ok hB.mat hj' i) hz
theorem nodup_len : ∀ {p q : List Nat}, p.Nodup → (∀ x, x ∈ p → x ∈ q) → p.length ≤ q.length
 | [], q, _, _ => by simp
 | x :: p, q, hn, hs => by
  have hx := hs x List.mem_cons_self
  have h := nodup_len (p := p) (q := q.erase x) (List.nodup_cons.1 hn).2 (fun y hy => (List.mem_erase_of_ne (fun e => (List.nodup_cons.1 hn).1 (by rw [← e]; exact hy))).2 (hs y (List.mem_cons_of_mem _ hy)))
  rw [List.length_erase_of_mem hx] at h
  have := List.length_pos_of_mem hx
  simp; omega
theorem nodup_all {p q : List Nat} (hp : p.Nodup) (hs : ∀ x, x ∈ p → x ∈ q) (hl : q.length ≤ p.length) {y : Nat} (hy : y ∈ q) : y ∈ p := by
 rcases Classical.em (y ∈ p) with h | h
 · exact h
 · have := nodup_len (p := y :: p) (q := q) (List.nodup_cons.2 ⟨h, hp⟩) (fun x hx => by
     rcases List.mem_cons.1 hx with rfl | hx
     · exact hy
     · exact hs x hx)
   simp at this
   omega
theorem Ech.nodup (hA : Ech F n A pa) : pa.Nodup := by
 rw [List.nodup_iff_pairwise_ne, List.pairwise_iff_getElem]
 intro i j hi hj hij e
 have := hA.mono i j hij hj
 rw [List.getD_eq_getElem?_getD, List.getElem?_eq_getElem hi, List.getD_eq_getElem?_getD, List.getElem?_eq_getElem hj] at this
 simp only [Option.getD_some] at this
 omega
theorem Ech.len_le (ok : F.Ok) (hA : Ech F n A pa) (hB : Ech F n B pb) (h : ∀ v, Sp F A v → Sp F B v) : A.length ≤ B.length := by
 rw [← hA.len, ← hB.len]
 exact nodup_len hA.nodup fun x hx => hA.sub_piv ok hB h hx
theorem Ech.all_of_len (ok : F.Ok) (hA : Ech F n A pa) (hB : Ech F n B pb) (h : ∀ v, Sp F A v → Sp F B v) (hl : B.length ≤ A.length) {v : Nat → Int} (hv : Sp F B v) : Sp F A v := by
 have hpe : pa = pb := by
  refine sorted_ext hA.mono hB.mono fun x => ⟨fun hx => hA.sub_piv ok hB h hx, fun hx => ?_⟩
  exact nodup_all hA.nodup (fun y hy => hA.sub_piv ok hB h hy) (by rw [hA.len, hB.len]; exact hl) hx
 subst hpe
 -- v less its part in A has zeros at the pivots
 have hlin : ∀ k, k ≤ A.length → Sp F A (fun i => F.sum (fun j => F.mul (v (pa.getD j 0)) (nth (nthL A j) i)) k) := by
  intro k
  induction k with
  | zero => intro _; exact .zero
  | succ k ih => intro hk; exact (ih (by omega)).step (by omega) (hv.el ok _)
 have hu := hlin A.length (Nat.le_refl _)
 have hd := hv.sub ok (h _ hu) 1
 have hz := hB.zero_of ok hd (fun l hl2 => by
  show F.sub (v (pa.getD l 0)) (F.mul 1 (F.sum (fun j => F.mul (v (pa.getD j 0)) (nth (nthL A j) (pa.getD l 0))) A.length)) = 0
  have hl3 : l < A.length := by rw [← hA.len]; exact hl2
  rw [one_mul' ok (sum_el ok _ _), sum_one ok (l := l) hl3 (mul_el ok _ _) (fun j hj hne => by rw [hA.one j l (by rw [hA.len]; exact hj) hl2, if_neg hne, mul_zero_all ok]), hA.one l l hl2 hl2, if_pos rfl, mul_comm' ok, one_mul' ok (hv.el ok _), sub_self' ok])
 have e : v = fun i => F.sum (fun j => F.mul (v (pa.getD j 0)) (nth (nthL A j) i)) A.length := by
  funext i
  have this : F.sub (v i) (F.mul 1 (F.sum (fun j => F.mul (v (pa.getD j 0)) (nth (nthL A j) i)) A.length)) = 0 := hz i
  rw [one_mul' ok (sum_el ok _ _)] at this
  exact eq_of_sub ok (hv.el ok i) (sum_el ok _ _) this
 rw [e]; exact hu
theorem scale_nth_all (ok : F.Ok) (c : Int) (xs : List Int) (i : Nat) : nth (scale F c xs) i = F.mul c (nth xs i) := by
 rcases Nat.lt_or_ge i xs.length with h | h
 · exact scale_nth F c h
 · rw [nth_big (by rw [scale_len]; exact h), nth_big h, mul_zero_all ok]
theorem less_nth_all (ok : F.Ok) (xs ys : List Int) (c : Int) (hl : ys.length = xs.length) (i : Nat) : nth (less F xs ys c) i = F.sub (nth xs i) (F.mul c (nth ys i)) := by
 rcases Nat.lt_or_ge i xs.length with h | h
 · exact less_nth F xs ys c h
 · rw [nth_big (by rw [less_len]; exact h), nth_big h, nth_big (xs := ys) (by omega), mul_zero_all ok, sub_self' ok]
theorem pivAt_cases (rows : List (List Int)) (c t : Nat) : (pivAt rows c t = rows.length ∧ ∀ j, t ≤ j → j < rows.length → nth (nthL rows j) c = 0) ∨ (t ≤ pivAt rows c t ∧ pivAt rows c t < rows.length ∧ nth (nthL rows (pivAt rows c t)) c ≠ 0) := by
 unfold pivAt
 cases hf : (List.range rows.length).find? (fun i => decide (t ≤ i) && (nth (nthL rows i) c != 0)) with
 | none =>
  left
  rw [List.find?_eq_none] at hf
  refine ⟨rfl, fun j h1 h2 => ?_⟩
  have := hf j (List.mem_range.2 h2)
  simpa [h1] using this
 | some i =>
  right
  have h1 := List.find?_some hf
  have h2 := List.mem_range.1 (List.mem_of_find?_eq_some hf)
  simp only [Bool.and_eq_true, decide_eq_true_eq, bne_iff_ne] at h1
  exact ⟨h1.1, h2, h1.2⟩
structure RI (F : FD) (n : Nat) (rows0 : List (List Int)) (c : Nat) (R : List (List Int)) (piv : List Int) (pv : List Nat) : Prop where
 mat : F.Mat n R
 len : R.length = rows0.length
 cast : piv = pv.map fun (x : Nat) => (x : Int)
 ple : pv.length ≤ R.length
 lt : ∀ j, j < pv.length → pv.getD j 0 < c
 mono : ∀ i j, i < j → j < pv.length → pv.getD i 0 < pv.getD j 0
 one : ∀ i j, i < R.length → j < pv.length → nth (nthL R i) (pv.getD j 0) = if i = j then 1 else 0
 lead : ∀ j i, j < pv.length → i < pv.getD j 0 → nth (nthL R j) i = 0
 rest : ∀ i col, pv.length ≤ i → i < R.length → col < c → nth (nthL R i) col = 0
 into : ∀ j, j < rows0.length → Sp F R (nth (nthL rows0 j))
 back : ∀ j, j < R.length → Sp F rows0 (nth (nthL R j))
theorem RI.start (ok : F.Ok) {rows0 : List (List Int)} (hM : F.Mat n rows0) : RI F n rows0 0 rows0 [] [] :=
 ⟨hM, rfl, rfl, Nat.zero_le _, by simp, by simp, by simp, by simp, by omega, fun j hj => Sp.row ok hM hj, fun j hj => Sp.row ok hM hj⟩
theorem getD_snoc_lt {p : List Nat} {x j : Nat} (h : j < p.length) : (p ++ [x]).getD j 0 = p.getD j 0 := by
 rw [List.getD_eq_getElem?_getD, List.getElem?_append_left h, ← List.getD_eq_getElem?_getD]
theorem getD_snoc_eq {p : List Nat} {x : Nat} : (p ++ [x]).getD p.length 0 = x := by
 simp [List.getD_eq_getElem?_getD]
theorem RI.go (hG : F.Good) {rows0 R : List (List Int)} {piv : List Int} {pv : List Nat} {c i : Nat} (h : RI F n rows0 c R piv pv) (ht : pv.length < R.length) (hti : pv.length ≤ i) (hi : i < R.length) (hne : nth (nthL R i) c ≠ 0) :
    RI F n rows0 (c + 1) (redOne F c pv.length R i) (piv ++ [(c : Int)]) (pv ++ [c]) := by
 have ok := hG.ok
 obtain ⟨t, htt⟩ : ∃ t, t = pv.length := ⟨_, rfl⟩
 rw [← htt] at ht hti ⊢
 have hel := (el_n ok).1 (nth_el ok h.mat hi c)
 obtain ⟨l, hl⟩ : ∃ l, l = nth (nthL R i) c := ⟨_, rfl⟩
 rw [← hl] at hne hel
 obtain ⟨i1, i2, i3, _⟩ := inv_spec hG (a := l) (by omega) hel.2
 -- the new top row
 obtain ⟨W, hW⟩ : ∃ W, W = scale F (F.inv l) (nthL R i) := ⟨_, rfl⟩
 have hWn : ∀ q, nth W q = F.mul (F.inv l) (nth (nthL R i) q) := fun q => by rw [hW, scale_nth_all ok]
 have hWc : nth W c = 1 := by rw [hWn, ← hl, mul_comm' ok, i1]
 have hW0 : ∀ q, q < c → nth W q = 0 := fun q hq => by rw [hWn, h.rest i q (by omega) hi hq, mul_zero_all ok]
 have hWl : W.length = n := by rw [hW, scale_len]; exact (Mat_nth h.mat hi).1
 have htop : nthL (topped F c t R i) t = W := by rw [topped_top F c ht, hW, hl]
 obtain ⟨X, hX⟩ : ∃ X : Nat → List Int, X = fun q => if q = i then nthL R t else nthL R q := ⟨_, rfl⟩
 have htq : ∀ q, q ≠ t → q < R.length → nthL (topped F c t R i) q = X q := fun q hq hqr => by
  rw [hX]
  unfold topped
  rw [nthL_set_ne (Ne.symm hq)]
  by_cases e : q = i
  · subst e; rw [nthL_set_same hqr]; simp
  · rw [nthL_set_ne (Ne.symm e)]; simp [e]
 have hXl : ∀ q, q < R.length → (X q).length = n := fun q hq => by
  rw [hX]
  simp only []
  split
  · exact (Mat_nth h.mat ht).1
  · exact (Mat_nth h.mat hq).1
 have hXe : ∀ q, q < R.length → ∀ k, F.el (nth (X q) k) := fun q hq k => by
  rw [hX]
  simp only []
  split
  · exact nth_el ok h.mat ht k
  · exact nth_el ok h.mat hq k
 have htl := topped_len F c t R i
 have hnew : ∀ q, q < R.length → nthL (redOne F c t R i) q = if q = t then W else less F (X q) W (nth (X q) c) := fun q hq => by
  rw [redOne, elimTo_nth _ (by rw [htl]; exact Nat.le_refl _)]
  by_cases e : q = t
  · subst e
    rw [if_neg (by omega), if_pos rfl, htop]
  · rw [if_pos ⟨hq, e⟩, if_neg e, htq q e hq, htop]
 have hnn : ∀ q k, q < R.length → q ≠ t → nth (nthL (redOne F c t R i) q) k = F.sub (nth (X q) k) (F.mul (nth (X q) c) (nth W k)) := fun q k hq e => by
  rw [hnew q hq, if_neg e, less_nth_all ok _ _ _ (by rw [hWl, hXl q hq])]
 have hlow : ∀ q k, q < R.length → q ≠ t → k < c → nth (nthL (redOne F c t R i) q) k = nth (X q) k := fun q k hq e hk => by
  rw [hnn q k hq e, hW0 k hk, mul_zero_all ok, sub_zero_el ok (hXe q hq k)]
 have hc0 : ∀ q, q < R.length → q ≠ t → nth (nthL (redOne F c t R i) q) c = 0 := fun q hq e => by
  rw [hnn q c hq e, hWc, mul_comm' ok, one_mul' ok (hXe q hq c), sub_self' ok]
 have hlen : (redOne F c t R i).length = R.length := redOne_len F c t R i
 have hmat : F.Mat n (redOne F c t R i) := by
  rw [redOne]
  exact elimTo_Mat ok (topped_Mat ok h.mat hi ht) _ (by rw [htl]; exact Nat.le_refl _)
 -- X below t is the old row, X from t on is an old row from t on
 have hXlow : ∀ q, q < t → X q = nthL R q := fun q hq => by rw [hX]; simp only []; rw [if_neg (by omega)]
 have hXhi : ∀ q k, t ≤ q → q < R.length → k < c → nth (X q) k = 0 := fun q k hq hqr hk => by
  rw [hX]
  simp only []
  split
  · exact h.rest t k (by omega) ht hk
  · exact h.rest q k (by omega) hqr hk
 have hpl : (pv ++ [c]).length = t + 1 := by simp [htt]
 have hpj : ∀ j, j < t → (pv ++ [c]).getD j 0 = pv.getD j 0 := fun j hj => getD_snoc_lt (by omega)
 have hpt : (pv ++ [c]).getD t 0 = c := by rw [htt]; exact getD_snoc_eq
 have hplt : ∀ j, j < t → pv.getD j 0 < c := fun j hj => h.lt j (by omega)
 -- spans
 have sW : Sp F R (nth W) := by
  have := (Sp.row ok h.mat hi).mul ok (a := F.inv l)
  have e : (fun k => F.mul (F.inv l) (nth (nthL R i) k)) = nth W := by funext k; rw [hWn]
  rw [e] at this; exact this
 have sX : ∀ q, q < R.length → Sp F R (nth (X q)) := fun q hq => by
  rw [hX]
  simp only []
  split
  · exact Sp.row ok h.mat ht
  · exact Sp.row ok h.mat hq
 have sNew : ∀ q, q < (redOne F c t R i).length → Sp F R (nth (nthL (redOne F c t R i) q)) := fun q hq => by
  rw [hlen] at hq
  by_cases e : q = t
  · rw [hnew q hq, if_pos e]; exact sW
  · have := (sX q hq).sub ok sW (nth (X q) c)
    have e2 : (fun k => F.sub (nth (X q) k) (F.mul (nth (X q) c) (nth W k))) = nth (nthL (redOne F c t R i) q) := by funext k; rw [hnn q k hq e]
    rw [e2] at this; exact this
 have tN : nthL (redOne F c t R i) t = W := by rw [hnew t ht, if_pos rfl]
 have sW2 : Sp F (redOne F c t R i) (nth W) := by
  have := Sp.row ok hmat (j := t) (by rw [hlen]; exact ht)
  rwa [tN] at this
 have sX2 : ∀ q, q < R.length → q ≠ t → Sp F (redOne F c t R i) (nth (X q)) := fun q hq e => by
  have := (Sp.row ok hmat (j := q) (by rw [hlen]; exact hq)).add ok (sW2.mul ok (a := nth (X q) c))
  have e2 : (fun k => F.add (nth (nthL (redOne F c t R i) q) k) (F.mul (nth (X q) c) (nth W k))) = nth (X q) := by
   funext k
   rw [hnn q k hq e]
   exact lin_eq ok (lin_el ok _ _ _) (hXe q hq k) (fun z hz => D_lin2 ok hz (D_lin ok _ _ _ hz) (Cg.refl _ _)) (fun z _ => Cg.refl _ _) fun z => by omega
  rw [e2] at this; exact this
 have sOldI : Sp F (redOne F c t R i) (nth (nthL R i)) := by
  have := sW2.mul ok (a := l)
  have e2 : (fun k => F.mul l (nth W k)) = nth (nthL R i) := by
   funext k
   rw [hWn, ← mul_assoc_all ok, i1, one_mul' ok (nth_el ok h.mat hi k)]
  rw [e2] at this; exact this
 have sOld : ∀ q, q < R.length → Sp F (redOne F c t R i) (nth (nthL R q)) := fun q hq => by
  by_cases e : q = i
  · rw [e]; exact sOldI
  · by_cases e2 : q = t
    · have hit : i ≠ t := fun e3 => e (by rw [e2, e3])
      have := sX2 i hi hit
      rw [hX] at this
      simp only [if_true] at this
      rw [e2]; exact this
    · have := sX2 q hq e2
      rw [hX] at this
      simp only [if_neg e] at this
      exact this
 refine ⟨hmat, hlen.trans h.len, by rw [List.map_append, h.cast]; rfl, by rw [hpl, hlen]; omega, fun j hj => ?_, fun a j haj hj => ?_, fun q j hq hj => ?_, fun j k hj hk => ?_, fun q col hq hqr hcol => ?_, fun j hj => Sp.of ok (fun q hq => sOld q hq) (h.into j hj), fun j hj => Sp.of ok (fun q hq => h.back q hq) (sNew j hj)⟩
 · rw [hpl] at hj
   by_cases e : j = t
   · rw [e, hpt]; omega
   · rw [hpj j (by omega)]; have := hplt j (by omega); omega
 · rw [hpl] at hj
   by_cases e : j = t
   · rw [e, hpt, hpj a (by omega)]; exact hplt a (by omega)
   · rw [hpj j (by omega), hpj a (by omega)]; exact h.mono a j haj (by omega)
 · rw [hpl] at hj
   rw [hlen] at hq
   by_cases e : j = t
   · rw [e, hpt]
     by_cases e2 : q = t
     · rw [e2, tN, hWc, if_pos rfl]
     · rw [hc0 q hq e2, if_neg e2]
   · have hjt : j < t := by omega
     rw [hpj j hjt]
     have hp := hplt j hjt
     by_cases e2 : q = t
     · rw [e2, tN, hW0 _ hp, if_neg (by omega)]
     · rw [hlow q _ hq e2 hp]
       by_cases e3 : q < t
       · rw [hXlow q e3]; exact h.one q j hq (by omega)
       · rw [hXhi q _ (by omega) hq hp, if_neg (by omega)]
 · rw [hpl] at hj
   by_cases e : j = t
   · rw [e, hpt] at hk
     rw [e, tN]; exact hW0 k hk
   · rw [hpj j (by omega)] at hk
     have hp := hplt j (by omega)
     rw [hlow j k (by omega) e (by omega), hXlow j (by omega)]
     exact h.lead j k (by omega) hk
 · rw [hpl] at hq
   rw [hlen] at hqr
   by_cases e : col = c
   · rw [e]; exact hc0 q hqr (by omega)
   · rw [hlow q col hqr (by omega) (by omega)]
     exact hXhi q col (by omega) hqr (by omega)
theorem red_RI (hG : F.Good) {rows0 : List (List Int)} (hM : F.Mat n rows0) (c : Nat) : ∃ pv, RI F n rows0 c (red F rows0 c).1 (red F rows0 c).2 pv := by
 induction c with
 | zero => exact ⟨[], RI.start hG.ok hM⟩
 | succ c ih =>
  obtain ⟨pv, h⟩ := ih
  have hpl : (red F rows0 c).2.length = pv.length := by rw [h.cast, List.length_map]
  rw [red, stepR]
  have skip : (∀ i, pv.length ≤ i → i < (red F rows0 c).1.length → nth (nthL (red F rows0 c).1 i) c = 0) → RI F n rows0 (c + 1) (red F rows0 c).1 (red F rows0 c).2 pv := fun hz =>
   ⟨h.mat, h.len, h.cast, h.ple, fun j hj => Nat.lt_succ_of_lt (h.lt j hj), h.mono, h.one, h.lead, fun i col hi hir hcol => by
    by_cases e : col = c
    · rw [e]; exact hz i hi hir
    · exact h.rest i col hi hir (by omega), h.into, h.back⟩
  by_cases hc : (red F rows0 c).2.length < (red F rows0 c).1.length ∧ pivAt (red F rows0 c).1 c (red F rows0 c).2.length < (red F rows0 c).1.length
  · rw [if_pos hc]
    obtain ⟨h1, h2⟩ := hc
    rw [hpl] at h1 h2 ⊢
    rcases pivAt_cases (red F rows0 c).1 c pv.length with ⟨e, _⟩ | ⟨e1, e2, e3⟩
    · omega
    · exact ⟨pv ++ [c], h.go hG h1 e1 e2 e3⟩
  · rw [if_neg hc]
    refine ⟨pv, skip fun i hi hir => ?_⟩
    rw [hpl] at hc
    rcases pivAt_cases (red F rows0 c).1 c pv.length with ⟨_, e⟩ | ⟨_, e2, _⟩
    · exact e i hi hir
    · exact absurd ⟨by omega, e2⟩ hc
theorem form_ech (hG : F.Good) {rows0 : List (List Int)} (hM : F.Mat n rows0) : ∃ pv : List Nat, (red F rows0 n).2 = pv.map (fun (x : Nat) => (x : Int)) ∧ Ech F n (form F rows0 n) pv ∧ ∀ v, Sp F (form F rows0 n) v ↔ Sp F rows0 v := by
 have ok := hG.ok
 obtain ⟨pv, h⟩ := red_RI hG hM n
 have hpl : (red F rows0 n).2.length = pv.length := by rw [h.cast, List.length_map]
 have hfl : (form F rows0 n).length = pv.length := by rw [form_len, hpl]
 have hfm := form_Mat ok hM
 have hfn : ∀ j, j < pv.length → nthL (form F rows0 n) j = nthL (red F rows0 n).1 j := fun j hj => by rw [form, hpl]; exact nthL_take hj
 refine ⟨pv, h.cast, ⟨hfm, hfl.symm, h.lt, h.mono, fun i j hi hj => by rw [hfn i hi]; exact h.one i j (by have := h.ple; omega) hj, fun j i hj hi => by rw [hfn j hj]; exact h.lead j i hj hi⟩, fun v => ⟨fun hv => ?_, fun hv => ?_⟩⟩
 · exact Sp.of ok (fun j hj => by rw [hfl] at hj; rw [hfn j hj]; exact h.back j (by have := h.ple; omega)) hv
 · refine Sp.of ok (B := (red F rows0 n).1) (fun j hj => ?_) (Sp.of ok h.into hv)
   by_cases e : j < pv.length
   · rw [← hfn j e]; exact Sp.row ok hfm (by rw [hfl]; exact e)
   · have : nth (nthL (red F rows0 n).1 j) = fun _ => 0 := by
       funext k
       rcases Nat.lt_or_ge k n with hk | hk
       · exact h.rest j k (by omega) hj hk
       · exact nth_big (by rw [(Mat_nth h.mat hj).1]; exact hk)
     rw [this]; exact .zero
end
end Go.Proofs.YtkiljcbejmiioaaGreat
namespace Go.Proofs.YtkiljcbejmiioaaGreat
open Go.RowKit
section
variable {F : FD} {n : Nat} {rows : List (List Int)}
theorem Mat_snoc {v : List Int} (hM : F.Mat n rows) (hv : v.length = n ∧ ∀ x ∈ v, 0 ≤ x ∧ x < F.n) : F.Mat n (rows ++ [v]) := by
 intro xs hx
 rcases List.mem_append.1 hx with h | h
 · exact hM xs h
 · rw [List.mem_singleton.1 h]; exact hv
theorem nthL_snoc_lt {v : List Int} {j : Nat} (h : j < rows.length) : nthL (rows ++ [v]) j = nthL rows j := by
 rw [nthL, nthL, List.getD_eq_getElem?_getD, List.getElem?_append_left h, ← List.getD_eq_getElem?_getD]
theorem nthL_snoc_eq {v : List Int} : nthL (rows ++ [v]) rows.length = v := by simp [nthL]
theorem rank_iff (hG : F.Good) {v : List Int} (hM : F.Mat n rows) (hv : v.length = n ∧ ∀ x ∈ v, 0 ≤ x ∧ x < F.n) : (form F (rows ++ [v]) n).length = (form F rows n).length ↔ Sp F rows (nth v) := by
 have ok := hG.ok
 have hMs := Mat_snoc hM hv
 obtain ⟨pa, _, eA, sA⟩ := form_ech hG hM
 obtain ⟨pb, _, eB, sB⟩ := form_ech hG hMs
 have hsub : ∀ u, Sp F rows u → Sp F (rows ++ [v]) u := fun u hu => Sp.of ok (fun j hj => by
  have := Sp.row ok hMs (j := j) (by simp; omega)
  rwa [nthL_snoc_lt hj] at this) hu
 constructor
 · intro hl
   rw [← sA]
   refine eA.all_of_len ok eB (fun u hu => (sB u).2 (hsub u ((sA u).1 hu))) (by omega) ((sB _).2 ?_)
   have := Sp.row ok hMs (j := rows.length) (by simp)
   rwa [nthL_snoc_eq] at this
 · intro hs
   have hback : ∀ u, Sp F (rows ++ [v]) u → Sp F rows u := fun u hu => Sp.of ok (fun j hj => by
    by_cases e : j < rows.length
    · rw [nthL_snoc_lt e]; exact Sp.row ok hM e
    · have : j = rows.length := by simp at hj; omega
      rw [this, nthL_snoc_eq]; exact hs) hu
   have := eA.unique ok eB (fun u => by rw [sA, sB]; exact ⟨hsub u, hback u⟩)
   rw [this]
theorem form_fix (hG : F.Good) {pv : List Nat} (h : Ech F n rows pv) : form F rows n = rows ∧ (red F rows n).2 = pv.map fun (x : Nat) => (x : Int) := by
 have ok := hG.ok
 obtain ⟨pa, e1, eA, sA⟩ := form_ech hG h.mat
 have e := eA.unique ok h sA
 refine ⟨e, ?_⟩
 rw [e1]
 rw [e] at eA
 rw [eA.piv_eq ok h (fun _ => Iff.rfl)]
end
end Go.Proofs.YtkiljcbejmiioaaGreat
namespace Go.Proofs.YtkiljcbejmiioaaGreat
open Go.RowKit
attribute [local go_sem ↓] Go.wp_at_zero Go.wp_at_succ
def cnt (q : Int) (k : Nat) : Int := if capTo q 4096 k ≤ 4096 then capTo q 4096 k else 0
theorem l18Count_any (q k : Int) (w : World) (h1 : 1 ≤ q) (h2 : q ≤ 1000) (hk : k ≤ 9223372036854775807) :
    Calls Tryz.prog 79 #[.int .i64 q, .int .i64 k] w fun e w' => e = .returned (.int .i64 (cnt q k.toNat)) ∧ w = w' := by
 go_enter Tryz.func79, Tryz.ntmps79
 go_wp2
 go_loop [1, 5] (fun kv nv => ∃ (i : Nat) (x y : Int), kv = .int .i64 x ∧ nv = .int .i64 y ∧ Hid (x = k - i) ∧ Hid (y = capTo q 4096 i) ∧ Hid (i ≤ k.toNat) ∧ x ≤ 9223372036854775807 ∧ 1 ≤ y ∧ y ≤ 4096) (fun kv _ => (intOf kv).toNat)
 case atStart => exact ⟨0, k, 1, rfl, rfl, show _ = _ by simp, rfl, Nat.zero_le _, hk, by omega, by omega⟩
 case round =>
  obtain ⟨i, x, y, rfl, rfl, hX, hY, hI, hx, hy, hy2⟩ := hrel
  by_cases h0 : 0 < x
  · have hp1 : 1 ≤ y * q := by have := Int.mul_le_mul hy h1 (by omega) (by omega); omega
    have hp2 : y * q ≤ 4096 * 1000 := Int.mul_le_mul hy2 h2 (by omega) (by omega)
    have hc : capTo q 4096 (i + 1) = y * q := by rw [capTo_go (by rw [← hY.out]; exact hy2), hY.out]
    have HC := Lib.hid hc
    clear hc
    by_cases hl : y * q ≤ 4096
    · go_wp2
      go_round
      case rel => exact ⟨i + 1, x - 1, y * q, rfl, rfl, show _ = _ by have := hX.out; omega, show _ = _ by rw [HC.out], show _ ≤ _ by have := hX.out; omega, by omega, hp1, hl⟩
      case measure => simp [intOf]; omega
    · go_wp2
      go_ret
      have hst := capTo_stop (b := q) (l := 4096) (k := i + 1) (by rw [HC.out]; omega) k.toNat (by have := hX.out; omega)
      refine ⟨ret_int ?_, rfl⟩
      rw [cnt, if_neg (by rw [hst, HC.out]; omega)]
  · go_wp2
    go_ret
    have e : i = k.toNat := by have := hX.out; have := hI.out; omega
    refine ⟨ret_int ?_, rfl⟩
    rw [← e, cnt, if_pos (by rw [← hY.out]; exact hy2), hY.out]
theorem sizeS_any (a : Option Addr) (n c : Nat) (w : World) : Calls Tryz.prog 76 #[.slice a n c] w fun e w' => e = .returned (.int .i64 n) ∧ w = w' := by
 go_enter Tryz.func76, Tryz.ntmps76
 go_wp2
 go_ret
 exact ⟨rfl, rfl⟩
def B3 (W : World) (g : Nat) (t : TypeId) : Prop := ∃ x y z, Blk W g t #[x, y, z]
def B4 (W : World) (g : Nat) (t : TypeId) : Prop := ∃ x y z u, Blk W g t #[x, y, z, u]
theorem Blk.b3 {W : World} {g : Nat} {t : TypeId} {x y z : Value} (h : Blk W g t #[x, y, z]) : B3 W g t := ⟨_, _, _, h⟩
theorem Blk.b4 {W : World} {g : Nat} {t : TypeId} {x y z u : Value} (h : Blk W g t #[x, y, z, u]) : B4 W g t := ⟨_, _, _, _, h⟩
theorem B3.below {W W' : World} {g : Nat} {t : TypeId} (h : B3 W g t) (hb : Below W.heap.size W W') : B3 W' g t := by
 obtain ⟨x, y, z, h⟩ := h
 exact ⟨x, y, z, h.below hb h.lt⟩
theorem B4.below {W W' : World} {g : Nat} {t : TypeId} (h : B4 W g t) (hb : Below W.heap.size W W') : B4 W' g t := by
 obtain ⟨x, y, z, u, h⟩ := h
 exact ⟨x, y, z, u, h.below hb h.lt⟩
theorem B3.drew {W : World} {g : Nat} {t : TypeId} (h : B3 W g t) : B3 W.drew g t := h
theorem B4.drew {W : World} {g : Nat} {t : TypeId} (h : B4 W g t) : B4 W.drew g t := h
theorem B3.store {W : World} {g : Nat} {t : TypeId} (h : B3 W g t) (a b c : Value) : Blk (((W.setCell ⟨g, 0, none⟩ a).setCell ⟨g, 1, none⟩ b).setCell ⟨g, 2, none⟩ c) g t #[a, b, c] := by
 obtain ⟨x, y, z, h⟩ := h
 exact ((h.set_ 0 a).set_ 1 b).set_ 2 c
theorem B4.store {W : World} {g : Nat} {t : TypeId} (h : B4 W g t) (a b c d : Value) : Blk ((((W.setCell ⟨g, 0, none⟩ a).setCell ⟨g, 1, none⟩ b).setCell ⟨g, 2, none⟩ c).setCell ⟨g, 3, none⟩ d) g t #[a, b, c, d] := by
 obtain ⟨x, y, z, u, h⟩ := h
 exact (((h.set_ 0 a).set_ 1 b).set_ 2 c).set_ 3 d
theorem Below.set3 {B : Nat} {w W : World} {g : Nat} (h : Below B w W) (hg : B ≤ g) (a b c : Value) : Below B w (((W.setCell ⟨g, 0, none⟩ a).setCell ⟨g, 1, none⟩ b).setCell ⟨g, 2, none⟩ c) := ((h.setCell hg _).setCell hg _).setCell hg _
theorem Below.set4 {B : Nat} {w W : World} {g : Nat} (h : Below B w W) (hg : B ≤ g) (a b c d : Value) : Below B w ((((W.setCell ⟨g, 0, none⟩ a).setCell ⟨g, 1, none⟩ b).setCell ⟨g, 2, none⟩ c).setCell ⟨g, 3, none⟩ d) := (((h.setCell hg _).setCell hg _).setCell hg _).setCell hg _
theorem l18Own_any (g : Nat) (F : FD) (w : World) (hF : PF w g F) :
    Calls Tryz.prog 128 #[.pointer (some ⟨g, 0, none⟩)] w fun e w' => ∃ v, e = .returned (.agg #[.int .i64 F.p, .int .i64 F.k, v]) ∧ Own w' w.heap.size v F.poly ∧ Below w.heap.size w w' := by
 have hg := hF.lt
 obtain ⟨ap, cp, hc2, hR⟩ := hF.2.2
 obtain ⟨W0, hW0⟩ : ∃ W0, W0 = w.alloc (.cells #[.int .i64 0, .int .i64 0, .slice none 0 0] 30) := ⟨_, rfl⟩
 have b0 : Below w.heap.size w W0 := by rw [hW0]; exact (Below.refl _ _).alloc (Nat.le_refl _) _
 have k0 : Blk W0 w.heap.size 30 #[.int .i64 0, .int .i64 0, .slice none 0 0] := by rw [hW0]; exact Blk.new _ _ _ rfl
 have boxes : ∀ (W : World), Below w.heap.size w W → B3 W w.heap.size 30 → (Below w.heap.size w W ∧ W.cell? ⟨g, 0, none⟩ = some (.int .i64 F.p) ∧ W.cell? ⟨g, 1, none⟩ = some (.int .i64 F.k) ∧ W.cell? ⟨g, 2, none⟩ = some (.slice ap F.poly.length cp) ∧ B3 W w.heap.size 30) := fun _ h k => ⟨h, (hF.below h).1, (hF.below h).2.1, (h.cell (p := ⟨g, 2, none⟩) hg).trans hc2, k⟩
 have BX := hide boxes
 have HR := hide hR
 have hcl := fun W h => l00Own_any ap cp F.poly W h
 have HCL := hide hcl
 have HW := Lib.hid hW0
 have k3 := k0.b3
 have s0 : w.heap.size < W0.heap.size := k0.lt
 clear boxes hcl hc2 hW0 hR hF k0
 go_enter Tryz.func128, Tryz.ntmps128
 go_upto_region 1 with fail
 rw [← HW.out]
 go_region_held3 (fun W => Below w.heap.size w W ∧ W.cell? ⟨g, 0, none⟩ = some (.int .i64 F.p) ∧ W.cell? ⟨g, 1, none⟩ = some (.int .i64 F.k) ∧ W.cell? ⟨g, 2, none⟩ = some (.slice ap F.poly.length cp) ∧ B3 W w.heap.size 30)
  (first | exact (unhide BX) _ b0 k3 | exact (unhide BX) _ b0.drew k3.drew | exact (unhide BX) _ (by assumption) (by assumption) | exact (unhide BX) _ (Below.set3 hB1 (Nat.le_refl _) _ _ _) (k31.store _ _ _).b3)
  (first
   | (go_at_call 113; refine (unhide HCL _ ?_).mono ?_; exact (unhide HR).below (And.left (by assumption)); rintro e W1 ⟨v1, rfl, o1, b1⟩; obtain ⟨a1, c1, rfl, _, _⟩ := o1.form; have hB1 := Below.chain (a := w) (And.left (by assumption)) b1; have k31 := B3.below (And.right (And.right (And.right (And.right (by assumption))))) b1; obtain ⟨x1, y1, z1, K1⟩ := id k31; have f0 := K1.cell 0; have f1 := K1.cell 1; have f2 := K1.cell 2; have g0 := K1.frozen 0; have g1 := K1.frozen 1; have g2 := K1.frozen 2))
 have hs : w.heap.size < W0.drew.heap.size := s0
 go_wp2
 refine bodyPost_ret (results_cell_row rfl _ _ w.heap.size 30 #[.int .i64 F.p, .int .i64 F.k, .slice a1 F.poly.length c1] (0, 0) _ rfl (k31.store _ _ _) Tryz.underlying30 rfl (by kernel_rfl)) rfl ⟨_, rfl, ?_, ?_⟩
 · exact (((o1.storeBelow hs _).storeBelow hs _).storeBelow hs _).mono (Nat.le_of_lt hs)
 · exact Below.set3 hB1 (Nat.le_refl _) _ _ _
theorem grown_below {w w' : World} (h : Below w.heap.size w w') (row : Option Nat) : w.grownBy w' row := by
 obtain ⟨h1, h2, h3, h4, h5⟩ := h
 exact ⟨h1, h2, h3, h4, fun i hi _ => h5 i hi⟩
theorem grown_set (w : World) (g i : Nat) (v : Value) : w.grownBy (w.setCell ⟨g, i, none⟩ v) (some g) :=
 have h := (Below.refl g w).setCell (p := ⟨g, i, none⟩) (Nat.le_refl _) v
 ⟨h.os, h.tape, h.output, h.size, fun j _ hj => Below.heap_setCell w ⟨g, i, none⟩ v j (fun e => hj (by rw [e]))⟩
theorem grown_drew1 (w : World) (row : Option Nat) : w.grownBy w.drew row := ⟨rfl, rfl, rfl, Nat.le_refl _, fun _ _ _ => rfl⟩
theorem grown_set4 {w W : World} {g : Nat} (h : w.grownBy W (some g)) (a b c d : Value) : w.grownBy ((((W.setCell ⟨g, 0, none⟩ a).setCell ⟨g, 1, none⟩ b).setCell ⟨g, 2, none⟩ c).setCell ⟨g, 3, none⟩ d) (some g) :=
 grown_trans_row (grown_trans_row (grown_trans_row (grown_trans_row h (grown_set _ _ _ _)) (grown_set _ _ _ _)) (grown_set _ _ _ _)) (grown_set _ _ _ _)
def mkC (F : FD) (rows : List (List Int)) : Int × Int × List Int × List (List Int) × Int :=
 if rows.length = 0 then (0, 0, [], [], 6) else if 8 < rows.length ∨ 4096 < capTo F.n 4096 rows.length then (0, 0, [], [], 5) else (F.p, F.k, F.poly, rows, 0)
def SpC (w : World) (B : Nat) (r : Int × Int × List Int × List (List Int) × Int) (e : Ending) (w' : World) : Prop :=
 ∃ v u, e = .returned (.tuple #[.agg #[.int .i64 r.1, .int .i64 r.2.1, v, u], .int .i64 r.2.2.2.2]) ∧ Own w' B v r.2.2.1 ∧ OwnS w' B u r.2.2.2.1 ∧ Below w.heap.size w w'
def ResC (w : World) (r : Int × Int × List Int × List (List Int) × Int) (e : Ending) (w' : World) : Prop :=
 ∃ v u, e = .returned (.tuple #[.agg #[.int .i64 r.1, .int .i64 r.2.1, v, u], .int .i64 r.2.2.2.2]) ∧ OwnC w' w.heap.size v u r.2.2.1 r.2.2.2.1 ∧ Below w.heap.size w w'
theorem l18Make_any (B g : Nat) (F : FD) (ra : Option Addr) (rc : Nat) (rows : List (List Int)) (w : World) (hF : PF w g F) (ok : F.Ok) (hr : OwnS w B (.slice ra rows.length rc) rows) (hB : B ≤ w.heap.size) :
    Calls Tryz.prog 87 #[.pointer (some ⟨g, 0, none⟩), .slice ra rows.length rc] w (SpC w B (mkC F rows)) := by
 have hg := hF.lt
 have hrl := hr.rd.len
 obtain ⟨n2, n64⟩ := ok.n_bd
 obtain ⟨W0, hW0⟩ : ∃ W0, W0 = w.alloc (.cells #[.int .i64 0, .int .i64 0, .slice none 0 0, .slice none 0 0] 36) := ⟨_, rfl⟩
 have b0 : Below w.heap.size w W0 := by rw [hW0]; exact (Below.refl _ _).alloc (Nat.le_refl _) _
 have k0 : Blk W0 w.heap.size 36 #[.int .i64 0, .int .i64 0, .slice none 0 0, .slice none 0 0] := by rw [hW0]; exact Blk.new _ _ _ rfl
 have s0 : w.heap.size < W0.heap.size := k0.lt
 have hF0 := hF.below b0
 have HW := Lib.hid hW0
 clear hW0
 unfold mkC
 by_cases hz : rows.length = 0
 · rw [if_pos hz]
   have hzb : ((rows.length : Int) == 0) = true := by rw [beq_iff_eq]; omega
   clear hz
   go_enter Tryz.func87, Tryz.ntmps87
   go_upto_region 1 with fail
   rw [← HW.out]
   have f0 := k0.cell 0
   have f1 := k0.cell 1
   have f2 := k0.cell 2
   have f3 := k0.cell 3
   have g0 := k0.frozen 0
   have g1 := k0.frozen 1
   have g2 := k0.frozen 2
   have g3 := k0.frozen 3
   go_wp2
   refine bodyPost_ret (results_cell_tmp_row rfl _ _ w.heap.size 36 #[.int .i64 0, .int .i64 0, .slice none 0 0, .slice none 0 0] _ rfl (k0.b4.store _ _ _ _) Tryz.underlying36 rfl (by kernel_rfl)) rfl ⟨_, _, rfl, Own.nil _ _, OwnS.nil _ _, Below.set4 b0 (Nat.le_refl _) _ _ _ _⟩
 · rw [if_neg hz]
   have hzb : ((rows.length : Int) == 0) = false := by rw [beq_eq_false_iff_ne]; omega
   clear hz
   by_cases h8 : 8 < rows.length
   · rw [if_pos (.inl h8)]
     go_enter Tryz.func87, Tryz.ntmps87
     go_upto_region 1 with fail
     rw [← HW.out]
     have f0 := k0.cell 0
     have f1 := k0.cell 1
     have f2 := k0.cell 2
     have f3 := k0.cell 3
     have g0 := k0.frozen 0
     have g1 := k0.frozen 1
     have g2 := k0.frozen 2
     have g3 := k0.frozen 3
     go_wp2
     refine bodyPost_ret (results_cell_tmp_row rfl _ _ w.heap.size 36 #[.int .i64 0, .int .i64 0, .slice none 0 0, .slice none 0 0] _ rfl (k0.b4.store _ _ _ _) Tryz.underlying36 rfl (by kernel_rfl)) rfl ⟨_, _, rfl, Own.nil _ _, OwnS.nil _ _, Below.set4 b0 (Nat.le_refl _) _ _ _ _⟩
   · have h8' : ¬ (8 : Int) < (rows.length : Int) := by omega
     have hS := fun W h => l03Size_any g F W h ok
     have hC := fun W => l18Count_any F.n rows.length W (by omega) (by omega) (by omega)
     rw [Int.toNat_natCast] at hC
     have HS := hide hS
     have HC := hide hC
     clear hS hC
     by_cases hc : 4096 < capTo F.n 4096 rows.length
     · rw [if_pos (.inr hc)]
       have e : cnt F.n rows.length = 0 := by rw [cnt, if_neg (by omega)]
       have E := Lib.hid e
       clear hc e
       go_enter Tryz.func87, Tryz.ntmps87
       go_wp2_with fail
       rw [← HW.out]
       refine (unhide HS _ hF0).mono ?_
       rintro e w1 ⟨rfl, b1⟩
       have hb1 := b0.trans (b1.mono (Nat.le_of_lt s0))
       have k1 := k0.below b1 k0.lt
       go_wp2_with fail
       refine (unhide HC _).mono ?_
       rintro e w2 ⟨rfl, rfl⟩
       rw [E.out]
       have f0 := k1.cell 0
       have f1 := k1.cell 1
       have f2 := k1.cell 2
       have f3 := k1.cell 3
       have g0 := k1.frozen 0
       have g1 := k1.frozen 1
       have g2 := k1.frozen 2
       have g3 := k1.frozen 3
       go_wp2
       refine bodyPost_ret (results_cell_tmp_row rfl _ _ w.heap.size 36 #[.int .i64 0, .int .i64 0, .slice none 0 0, .slice none 0 0] _ rfl (k1.b4.store _ _ _ _) Tryz.underlying36 rfl (by kernel_rfl)) rfl ⟨_, _, rfl, Own.nil _ _, OwnS.nil _ _, Below.set4 hb1 (Nat.le_refl _) _ _ _ _⟩
     · rw [if_neg (by omega)]
       have hp := capTo_pos (b := F.n) (l := 4096) (by omega) rows.length
       have e : (cnt F.n rows.length == 0) = false := by rw [cnt, if_pos (by omega), beq_eq_false_iff_ne]; omega
       obtain ⟨x, hx⟩ : ∃ x, x = cnt F.n rows.length := ⟨_, rfl⟩
       rw [← hx] at e
       have HX := Lib.hid hx
       have hO := fun W h => l18Own_any g F W h
       have HO := hide hO
       clear hc hp hx hO
       go_enter Tryz.func87, Tryz.ntmps87
       go_wp2_with fail
       rw [← HW.out]
       refine (unhide HS _ hF0).mono ?_
       rintro e w1 ⟨rfl, b1⟩
       have hb1 := b0.trans (b1.mono (Nat.le_of_lt s0))
       have hF1 := hF0.below b1
       have k1 := k0.below b1 k0.lt
       go_wp2_with fail
       refine (unhide HC _).mono ?_
       rintro e w2 ⟨rfl, rfl⟩
       rw [← HX.out]
       go_wp2_with fail
       refine (unhide HO _ hF1).mono ?_
       rintro e w2 ⟨v, rfl, o2, b2⟩
       obtain ⟨a2, c2, rfl, r2, _⟩ := o2.form
       have z1 := b1.size
       have hb2 := hb1.trans (b2.mono (by omega))
       have k2 := k1.below b2 k1.lt
       have s2 := b2.size
       have f0 := k2.cell 0
       have f1 := k2.cell 1
       have f2 := k2.cell 2
       have f3 := k2.cell 3
       have g0 := k2.frozen 0
       have g1 := k2.frozen 1
       have g2 := k2.frozen 2
       have g3 := k2.frozen 3
       go_wp2
       refine bodyPost_ret (results_cell_tmp_row rfl _ _ w.heap.size 36 #[.int .i64 F.p, .int .i64 F.k, .slice a2 F.poly.length c2, .slice ra rows.length rc] _ rfl (k2.b4.store _ _ _ _) Tryz.underlying36 rfl (by kernel_rfl)) rfl ⟨_, _, rfl, ?_, ?_, Below.set4 hb2 (Nat.le_refl _) _ _ _ _⟩
       · have hs2 : w.heap.size < w1.heap.size := by omega
         exact ((((o2.storeBelow hs2 _).storeBelow hs2 _).storeBelow hs2 _).storeBelow hs2 _).mono (by omega)
       · exact hr.below (Below.set4 hb2 (Nat.le_refl _) _ _ _ _) (Nat.le_refl _)
end Go.Proofs.YtkiljcbejmiioaaGreat
namespace Go.Proofs.YtkiljcbejmiioaaGreat
open Go.RowKit
theorem Own.notBlk {w : World} {B g : Nat} {v : Value} {xs : List Int} {t : TypeId} {cs : Array Value} (h : Own w B v xs) (hb : Blk w g t cs) (ht : t ≠ 2) : v.ownBlock ≠ some g := by
 intro hv
 rcases h.2.2 with ⟨rfl, _⟩ | ⟨g', cap', cur', rfl, _, hg', _⟩
 · simp [Value.ownBlock] at hv
 · simp only [Value.ownBlock, Option.some.injEq] at hv
   subst hv
   have hb' : w.heap[g']? = some (.cells cs t (0, 0)) := hb
   rw [hb'] at hg'
   injection hg' with h1
   injection h1 with _ h2
   exact ht h2
theorem OwnSQ.notBlk {w : World} {B g g2 n c : Nat} {yss : List (List Int)} {Q : Value → Prop} {t : TypeId} {cs : Array Value} (h : OwnSQ w B (.slice (some ⟨g, 0, none⟩) n c) yss Q) (hb : Blk w g2 t cs) (ht : t ≠ 28) : g ≠ g2 := by
 rintro rfl
 obtain ⟨_, vs, hr, _⟩ := h
 rcases hr.2 with ⟨hv, _⟩ | ⟨g', cap', cur', hv, _, hg', _⟩
 · injection hv with h0 _ _
   cases h0
 · injection hv with h0 _ _
   injection h0 with h0
   injection h0 with h0 _ _
   subst h0
   have hb' : w.heap[g]? = some (.cells cs t (0, 0)) := hb
   rw [hb'] at hg'
   injection hg' with h1
   injection h1 with _ h2
   exact ht h2
def RS (w : World) (tvs : Array Value) (gb cb gq m : Nat) (rows : List (List Int)) (u : Value) (piv : List Int) (k : Nat) (wr : World) : Prop :=
 OwnSQ wr w.heap.size (.slice (some ⟨gb, 0, none⟩) m cb) rows (NB u) ∧ Own wr w.heap.size u piv ∧ Blk wr gq 3 #[.int .i64 k] ∧ Blk wr w.heap.size 60 tvs ∧ w.heap.size ≤ gq ∧ Below w.heap.size w wr
section
variable {w wr : World} {tvs : Array Value} {gb cb gq m k : Nat} {rows : List (List Int)} {u : Value} {piv : List Int}
theorem RS.row (h : RS w tvs gb cb gq m rows u piv k wr) {i : Nat} (hi : i < rows.length) :
    ∃ a c, Own wr w.heap.size (.slice a (nthL rows i).length c) (nthL rows i) ∧ wr.cell? ⟨gb, i, none⟩ = some (.slice a (nthL rows i).length c) ∧
     (∀ w' ys, Own w' w.heap.size (.slice a (nthL rows i).length c) ys → ys.length = (nthL rows i).length → wr.grownBy w' (Value.ownBlock (.slice a (nthL rows i).length c)) → RS w tvs gb cb gq m (rows.set i ys) u piv k w') ∧
     (∀ j a' c', j < rows.length → j ≠ i → wr.cell? ⟨gb, j, none⟩ = some (.slice a' (nthL rows j).length c') → ∀ q, Value.ownBlock (.slice a' (nthL rows j).length c') = some q → Value.ownBlock (.slice a (nthL rows i).length c) ≠ some q) := by
 obtain ⟨h1, h2, h3, h4, h5, h6⟩ := h
 obtain ⟨a, c, o1, q1, c1, s1, d1⟩ := h1.row hi
 have hc := c1 gb 0 _ _ rfl
 rw [Nat.zero_add] at hc
 refine ⟨a, c, o1, hc, fun w' ys o2 hl hg => ⟨s1 w' ys o2 hl hg, h2.grow hg ?_, h3.grown hg (o1.notBlk h3 (by decide)), h4.grown hg (o1.notBlk h4 (by decide)), h5, Below.step h6 hg o1 (Nat.le_refl _) h6.size⟩, fun j a' c' hj hji hcell q hq => d1 j a' c' hj hji (fun b off m2 d e => ?_) (by simp [Value.ownBlock]) q hq⟩
 · rcases hu : u.ownBlock with _ | ku
   · exact .inl rfl
   · exact .inr fun e => q1 ku e.symm hu
 · injection e with e1 _ _
   injection e1 with e1
   injection e1 with e1 e2 _
   subst e1
   subst e2
   rw [Nat.zero_add]
   exact hcell
theorem RS.swap (h : RS w tvs gb cb gq m rows u piv k wr) {t i : Nat} (ht : t < rows.length) (hi : i < rows.length) (hti : t ≠ i) {x y : Value} (hx : wr.cell? ⟨gb, t, none⟩ = some x) (hy : wr.cell? ⟨gb, i, none⟩ = some y) :
    RS w tvs gb cb gq m (swapped rows t i) u piv k ((wr.setCell ⟨gb, t, none⟩ y).setCell ⟨gb, i, none⟩ x) := by
 obtain ⟨h1, h2, h3, h4, h5, h6⟩ := h
 have e := h1.own.len
 obtain ⟨s1, s2⟩ := h1.swap ht hi hti hx hy
 refine ⟨s1, h1.others s2 h2, h3.grown s2 ?_, h4.grown s2 ?_, h5, Below.stepQ h6 h1 s2 h6.size⟩
 · intro e; injection e with e; exact h1.notBlk h3 (by decide) e
 · intro e; injection e with e; exact h1.notBlk h4 (by decide) e
theorem RS.push (h : RS w tvs gb cb gq m rows u piv k wr) (o : Obj) {u2 : Value} {w3 : World} {ys : List Int} (ho : Own w3 w.heap.size u2 ys) (hg : (wr.alloc o).grownBy w3 u.ownBlock) (hc : u2.ownBlock = u.ownBlock ∨ u2.ownBlock = some (wr.alloc o).heap.size) : RS w tvs gb cb gq m rows u2 ys k w3 := by
 obtain ⟨h1, h2, h3, h4, h5, h6⟩ := h
 have hsz := h6.size
 have ba : Below wr.heap.size wr (wr.alloc o) := (Below.refl _ _).alloc (Nat.le_refl _) _
 have h2a := h2.alloc o
 exact ⟨(h1.below ba).grow2 h2a hg hc, ho, (h3.alloc o).grown hg (h2a.notBlk (h3.alloc o) (by decide)), (h4.alloc o).grown hg (h2a.notBlk (h4.alloc o) (by decide)), h5, Below.step (h6.alloc hsz o) hg h2a (Nat.le_refl _) (by simp; omega)⟩
theorem RS.next (h : RS w tvs gb cb gq m rows u piv k wr) {k2 : Nat} {w2 : World} (hb : Below wr.heap.size wr w2) (hq : Blk w2 wr.heap.size 3 #[.int .i64 k2]) : RS w tvs gb cb wr.heap.size m rows u piv k2 w2 := by
 obtain ⟨h1, h2, h3, h4, h5, h6⟩ := h
 exact ⟨h1.below hb, h2.below hb (Nat.le_refl _), hq, h4.below hb h4.lt, h6.size, h6.trans (hb.mono h6.size)⟩
theorem RS.drew (h : RS w tvs gb cb gq m rows u piv k wr) : RS w tvs gb cb gq m rows u piv k wr.drew := by
 obtain ⟨h1, h2, h3, h4, h5, h6⟩ := h
 exact ⟨h1.below (Below.refl _ _).drew, h2.below (Below.refl wr.heap.size wr).drew (Nat.le_refl _), h3, h4, h5, h6.drew⟩
end
end Go.Proofs.YtkiljcbejmiioaaGreat
namespace Go.Proofs.YtkiljcbejmiioaaGreat
open Go.RowKit
attribute [local go_sem ↓] Go.wp_at_zero Go.wp_at_succ
def dotF (F : FD) (xs ys : List Int) : Int := F.sum (fun j => F.mul (nth xs j) (nth ys j)) xs.length
theorem dotF_bd {F : FD} (ok : F.Ok) (xs ys : List Int) : 0 ≤ dotF F xs ys ∧ dotF F xs ys < F.n := (el_n ok).1 (sum_el ok _ _)
theorem dot_any (F : FD) (tv : Value) (a b : Option Addr) (c d : Nat) (xs ys : List Int) (n : Nat) (w : World) (hT : Tabs w F tv) (ok : F.Ok) (hx : Rd w a xs) (hy : Rd w b ys) (hxl : xs.length = n) (hyl : ys.length = n) (hm : ∀ x ∈ xs, 0 ≤ x ∧ x < F.n) (hm2 : ∀ y ∈ ys, 0 ≤ y ∧ y < F.n) :
    Calls Tryz.prog 137 #[tv, .slice a n c, .slice b n d] w fun e w' => e = .returned (.int .i64 (dotF F xs ys)) ∧ Below w.heap.size w w' := by
 obtain ⟨aA, cA, aS, cS, aM, cM, aI, cI, rfl, tA, tS, tM, tI⟩ := hT
 obtain ⟨n2, n64⟩ := ok.n_bd
 have hxn := hx.len
 rw [hxl] at hxn
 have hdef : dotF F xs ys = F.sum (fun j => F.mul (nth xs j) (nth ys j)) n := by rw [dotF, hxl]
 obtain ⟨W0, hHW⟩ : ∃ z, z = w.alloc (.cells #[.int .i64 F.n, .slice aA F.n cA, .slice aS F.n cS, .slice aM F.n cM, .slice aI F.n cI] 60) := ⟨_, rfl⟩
 have b0 : Below w.heap.size w W0 := by rw [hHW]; exact (Below.refl _ _).alloc (Nat.le_refl _) _
 have kT : Blk W0 w.heap.size 60 #[.int .i64 F.n, .slice aA F.n cA, .slice aS F.n cS, .slice aM F.n cM, .slice aI F.n cI] := by rw [hHW]; exact Blk.new _ _ _ rfl
 have HW := Lib.hid hHW
 have HX := hide (hx.below b0)
 have HY := hide (hy.below b0)
 have HM := hide hm
 have HM2 := hide hm2
 have TA := hide (tA.below b0)
 have TM := hide (tM.below b0)
 have HXL := Lib.hid hxl
 have HYL := Lib.hid hyl
 have HDEF := Lib.hid hdef
 clear hHW hx hy hm hm2 tA tS tM tI hxl hyl hdef
 go_enter Tryz.func137, Tryz.ntmps137
 go_upto_region 1 with fail
 rw [← HW.out]
 go_wp2_with fail
 go_loopw [7, 12] (fun sv iv wr => ∃ (k s : Nat), iv = .int .i64 k ∧ sv = .int .i64 s ∧ k ≤ n ∧ s < F.n ∧ Hid ((s : Int) = F.sum (fun j => F.mul (nth xs j) (nth ys j)) k) ∧ Qt W0 wr) (fun _ iv _ => n - (intOf iv).toNat)
 case atStart => exact ⟨0, 0, rfl, rfl, Nat.zero_le _, by omega, rfl, Qt.refl _⟩
 case round =>
  obtain ⟨k, s, rfl, rfl, hk, hs, hS, hq⟩ := hrel
  by_cases hkn : k < n
  · have hb := hq.below W0.heap.size
    obtain ⟨gx, ox, rfl, _, hcx⟩ := ((unhide HX).below hb).at_ (by rw [HXL.out]; omega)
    obtain ⟨gy, oy, rfl, _, hcy⟩ := ((unhide HY).below hb).at_ (by rw [HYL.out]; omega)
    have cx := hcx k (by rw [HXL.out]; exact hkn)
    have cy := hcy k (by rw [HYL.out]; exact hkn)
    have hxr := unhide HM _ (nth_mem (k := k) (by rw [HXL.out]; exact hkn))
    have hyr := unhide HM2 _ (nth_mem (k := k) (by rw [HYL.out]; exact hkn))
    have hst : F.sum (fun j => F.mul (nth xs j) (nth ys j)) (k + 1) = F.add s (F.mul (nth xs k) (nth ys k)) := by rw [FD.sum, ← hS.out]
    obtain ⟨x, hx⟩ := Int.eq_ofNat_of_zero_le hxr.1
    obtain ⟨y, hy⟩ := Int.eq_ofNat_of_zero_le hyr.1
    rw [hx] at cx hxr hst
    rw [hy] at cy hyr hst
    have hMb := mul_bd ok x y
    obtain ⟨m, hmm⟩ := Int.eq_ofNat_of_zero_le hMb.1
    obtain ⟨bM, oM, bm, om, cm, rfl, m1, m2⟩ := tab_at ((unhide TM).below hb) (i := x) (j := y) (by omega) (by omega)
    obtain ⟨bA, oA, ba, oa, ca, rfl, a1, a2⟩ := tab_at ((unhide TA).below hb) (i := s) (j := m) (by omega) (by omega)
    rw [hmm] at m2 hst hMb
    have hDb := add_bd ok s m
    obtain ⟨D, hD⟩ := Int.eq_ofNat_of_zero_le hDb.1
    rw [hD] at a2 hst hDb
    have kR := kT.below hb kT.lt
    have t1 := kR.cell 1
    have t3 := kR.cell 3
    have lx : x < F.n := by omega
    have ly : y < F.n := by omega
    have lm : m < F.n := by omega
    have lD : D < F.n := by omega
    have HST := Lib.hid hst
    clear hst hD hmm hx hy hcx hcy kR hxr hyr hMb hDb hb
    go_upto_region 5 with fail
    go_quiet (fail)
    go_wp2
    go_roundw
    case rel => exact ⟨k + 1, D, by go_num, rfl, by omega, lD, HST.out.symm, hq.trans (Qt.one _ _)⟩
    case measure => simp only [intOf]; omega
  · have hke : k = n := by omega
    have HE := Lib.hid hke
    clear hke
    go_wp2
    go_ret
    exact ⟨ret_int (by rw [HDEF.out, hS.out, HE.out]), b0.trans ((hq.below _).mono b0.size)⟩
end Go.Proofs.YtkiljcbejmiioaaGreat
namespace Go.Proofs.YtkiljcbejmiioaaGreat
open Go.RowKit
def nulIn (F : FD) (rows : List (List Int)) (piv : List Int) (n c : Nat) : Nat → List Int
 | 0 => (zeros n).set c 1
 | i + 1 => (nulIn F rows piv n c i).set (nth piv i).toNat (F.sub 0 (nth (nthL rows i) c))
def nulV (F : FD) (rows : List (List Int)) (piv : List Int) (n c : Nat) : List Int := nulIn F rows piv n c piv.length
def nulTo (F : FD) (rows : List (List Int)) (piv : List Int) (n : Nat) : Nat → List (List Int)
 | 0 => []
 | c + 1 => if piv.contains (c : Int) = true then nulTo F rows piv n c else nulTo F rows piv n c ++ [nulV F rows piv n c]
def nulB (F : FD) (m : List (List Int)) (n : Nat) : List (List Int) := nulTo F (form F m n) (red F m n).2 n n
def nul (F : FD) (m : List (List Int)) (n : Nat) : List (List Int) := form F (nulB F m n) n
theorem nulIn_len (F : FD) (rows : List (List Int)) (piv : List Int) (n c i : Nat) : (nulIn F rows piv n c i).length = n := by
 induction i with
 | zero => rw [nulIn, List.length_set, zeros_len]
 | succ i ih => rw [nulIn, List.length_set, ih]
theorem set_bd {q : Int} {xs : List Int} (h : ∀ x ∈ xs, 0 ≤ x ∧ x < q) {y : Int} (hy : 0 ≤ y ∧ y < q) (i : Nat) : ∀ x ∈ xs.set i y, 0 ≤ x ∧ x < q := by
 intro x hx
 rcases List.mem_or_eq_of_mem_set hx with h1 | h1
 · exact h x h1
 · rw [h1]; exact hy
theorem nulIn_el {F : FD} (ok : F.Ok) (rows : List (List Int)) (piv : List Int) (n c i : Nat) : ∀ x ∈ nulIn F rows piv n c i, 0 ≤ x ∧ x < F.n := by
 have n2 := ok.n_bd
 induction i with
 | zero =>
  refine set_bd (fun x hx => ?_) (by omega) _
  rw [zeros, List.mem_replicate] at hx
  omega
 | succ i ih => exact set_bd ih (sub_bd ok _ _) _
theorem nulTo_Mat {F : FD} (ok : F.Ok) (rows : List (List Int)) (piv : List Int) (n c : Nat) : F.Mat n (nulTo F rows piv n c) := by
 induction c with
 | zero => intro xs hx; simp [nulTo] at hx
 | succ c ih =>
  rw [nulTo]
  split
  · exact ih
  · exact Mat_snoc ih ⟨nulIn_len _ _ _ _ _ _, nulIn_el ok _ _ _ _ _⟩
theorem nulTo_le (F : FD) (rows : List (List Int)) (piv : List Int) (n c : Nat) : (nulTo F rows piv n c).length ≤ c := by
 induction c with
 | zero => simp [nulTo]
 | succ c ih =>
  rw [nulTo]
  split
  · omega
  · simp; omega
theorem red_nil (F : FD) (c : Nat) : red F [] c = ([], []) := by
 induction c with
 | zero => rfl
 | succ c ih => rw [red, ih]; rfl
theorem form_nil (F : FD) (n : Nat) : form F [] n = [] := by rw [form, red_nil]; rfl
theorem nul_Mat {F : FD} (ok : F.Ok) (m : List (List Int)) (n : Nat) : F.Mat n (nul F m n) := form_Mat ok (nulTo_Mat ok _ _ _ _)
end Go.Proofs.YtkiljcbejmiioaaGreat
namespace Go.Proofs.YtkiljcbejmiioaaGreat
open Go.RowKit
section
variable {F : FD} {n : Nat} {m A : List (List Int)} {pv : List Nat}
def dt (F : FD) (n : Nat) (u v : Nat → Int) : Int := F.sum (fun j => F.mul (u j) (v j)) n
theorem dt_comm (ok : F.Ok) (u v : Nat → Int) : dt F n u v = dt F n v u := sum_congr fun j _ => mul_comm' ok _ _
theorem dt_zero (ok : F.Ok) (v : Nat → Int) : dt F n (fun _ => 0) v = 0 := sum_zero ok fun j _ => zero_mul_all ok _
theorem dt_add (ok : F.Ok) (u v x : Nat → Int) : dt F n (fun i => F.add (u i) (v i)) x = F.add (dt F n u x) (dt F n v x) := by
 rw [dt, dt, dt, ← sum_add ok]
 exact sum_congr fun j _ => add_mul' ok _ _ _
theorem dt_mul (ok : F.Ok) (c : Int) (u x : Nat → Int) : dt F n (fun i => F.mul c (u i)) x = F.mul c (dt F n u x) := by
 rw [dt, dt, mul_sum ok]
 exact sum_congr fun j _ => mul_assoc_all ok _ _ _
def Or (F : FD) (n : Nat) (m : List (List Int)) (v : Nat → Int) : Prop := ∀ j, j < m.length → dt F n (nth (nthL m j)) v = 0
theorem Or.sp (ok : F.Ok) {u v : Nat → Int} (h : Or F n m v) (hu : Sp F m u) : dt F n u v = 0 := by
 induction hu with
 | zero => exact dt_zero ok v
 | @step u j c hs hj hc ih => rw [dt_add ok, dt_mul ok, ih, h j hj, mul_zero_all ok, add_zero' ok (zero_el ok)]
theorem or_sp (ok : F.Ok) {v : Nat → Int} (h : ∀ j, j < A.length → Or F n m (nth (nthL A j))) (hv : Sp F A v) : Or F n m v := fun j hj => by
 rw [dt_comm ok]
 exact Or.sp (m := A) ok (fun i hi => by rw [dt_comm ok]; exact h i hi j hj) hv
theorem or_all (ok : F.Ok) (hs : ∀ v, Sp F m v ↔ Sp F A v) (hm : F.Mat n m) (hA : F.Mat n A) (v : Nat → Int) : Or F n m v ↔ Or F n A v :=
 ⟨fun h j hj => h.sp ok ((hs _).2 (Sp.row ok hA hj)), fun h j hj => h.sp ok ((hs _).1 (Sp.row ok hm hj))⟩
theorem sub_el' (ok : F.Ok) (a b : Int) : F.el (F.sub a b) := lin_el ok _ _ _
theorem add_neg' (ok : F.Ok) {a : Int} (ha : F.el a) : F.add a (F.sub 0 a) = 0 := by
 have h := add_neg_mul' ok a a 1
 rw [mul_comm' ok (F.sub 0 a) 1, one_mul' ok (sub_el' ok _ _), mul_comm' ok a 1, one_mul' ok ha, sub_self' ok] at h
 exact h
theorem sum_two (ok : F.Ok) {f : Nat → Int} {k a b : Nat} (ha : a < k) (hb : b < k) (hab : a ≠ b) (he : ∀ j, F.el (f j)) (h : ∀ j, j < k → j ≠ a → j ≠ b → f j = 0) : F.sum f k = F.add (f a) (f b) := by
 have e : F.sum f k = F.sum (fun j => F.add (if j = a then f j else 0) (if j = a then 0 else f j)) k := sum_congr fun j _ => by
  by_cases hj : j = a
  · rw [if_pos hj, if_pos hj, add_zero' ok (he j)]
  · rw [if_neg hj, if_neg hj, zero_add' ok (he j)]
 rw [e, sum_add ok, sum_one ok (l := a) ha (by rw [if_pos rfl]; exact he a) (fun j hj hne => if_neg hne), sum_one ok (l := b) hb (by rw [if_neg (Ne.symm hab)]; exact he b) (fun j hj hne => by
  by_cases hja : j = a
  · exact if_pos hja
  · rw [if_neg hja, h j hj hja hne]), if_pos rfl, if_neg (Ne.symm hab)]
theorem Sp.snoc (_ok : F.Ok) {v : Nat → Int} {x : List Int} (h : Sp F A v) : Sp F (A ++ [x]) v := by
 induction h with
 | zero => exact .zero
 | @step v j c hs hj hc ih =>
  have h := ih.step (j := j) (by rw [List.length_append]; omega) hc
  rwa [nthL_snoc_lt hj] at h
theorem getD_inj (hE : Ech F n m pv) {i j : Nat} (hi : i < pv.length) (hj : j < pv.length) (h : pv.getD i 0 = pv.getD j 0) : i = j := by
 rcases Nat.lt_trichotomy i j with h1 | h1 | h1
 · have := hE.mono i j h1 hj; omega
 · exact h1
 · have := hE.mono j i h1 hi; omega
theorem piv_nth (pv : List Nat) {l : Nat} (hl : l < pv.length) : (nth (pv.map fun (x : Nat) => (x : Int)) l).toNat = pv.getD l 0 := by
 rw [nth_lt (by rw [List.length_map]; exact hl), List.getElem_map, List.getD_eq_getElem?_getD, List.getElem?_eq_getElem hl]
 rfl
theorem piv_has (pv : List Nat) (c : Nat) : (pv.map fun (x : Nat) => (x : Int)).contains (c : Int) = true ↔ c ∈ pv := by
 rw [List.contains_iff_mem, List.mem_map]
 exact ⟨fun ⟨x, hx, e⟩ => by rwa [← Int.ofNat_inj.1 e], fun h => ⟨c, h, rfl⟩⟩
theorem nulIn_nth (hE : Ech F n m pv) {c : Nat} (hc : c < n) (hcp : c ∉ pv) : ∀ k, k ≤ pv.length →
    nth (nulIn F m (pv.map fun (x : Nat) => (x : Int)) n c k) c = 1 ∧ (∀ l, l < k → nth (nulIn F m (pv.map fun (x : Nat) => (x : Int)) n c k) (pv.getD l 0) = F.sub 0 (nth (nthL m l) c)) ∧
    ∀ i, i ≠ c → (∀ l, l < k → pv.getD l 0 ≠ i) → nth (nulIn F m (pv.map fun (x : Nat) => (x : Int)) n c k) i = 0 := by
 intro k
 induction k with
 | zero =>
  intro _
  refine ⟨nth_set_same (by rw [zeros_len]; exact hc) _, fun l hl => by omega, fun i hi _ => ?_⟩
  rw [nulIn, nth_set_ne (fun h => hi h.symm), zeros_nth]
 | succ k ih =>
  intro hk
  obtain ⟨h1, h2, h3⟩ := ih (by omega)
  have hpc : pv.getD k 0 ≠ c := fun h => hcp (h ▸ getD_mem (by omega))
  rw [nulIn, piv_nth pv (by omega)]
  refine ⟨by rw [nth_set_ne hpc]; exact h1, fun l hl => ?_, fun i hi hl => ?_⟩
  · by_cases e : l = k
    · subst e
      exact nth_set_same (by rw [nulIn_len]; exact hE.lt l (by omega)) _
    · rw [nth_set_ne (fun h => e (getD_inj hE (by omega) (by omega) h.symm)), h2 l (by omega)]
  · rw [nth_set_ne (hl k (by omega)), h3 i hi fun l hl2 => hl l (by omega)]
theorem nulV_nth (hE : Ech F n m pv) {c : Nat} (hc : c < n) (hcp : c ∉ pv) :
    nth (nulV F m (pv.map fun (x : Nat) => (x : Int)) n c) c = 1 ∧ (∀ l, l < pv.length → nth (nulV F m (pv.map fun (x : Nat) => (x : Int)) n c) (pv.getD l 0) = F.sub 0 (nth (nthL m l) c)) ∧
    ∀ i, i ≠ c → i ∉ pv → nth (nulV F m (pv.map fun (x : Nat) => (x : Int)) n c) i = 0 := by
 obtain ⟨h1, h2, h3⟩ := nulIn_nth hE hc hcp pv.length (Nat.le_refl _)
 rw [nulV, List.length_map]
 exact ⟨h1, h2, fun i hi hip => h3 i hi fun l hl e => hip (e ▸ getD_mem hl)⟩
theorem row_el (ok : F.Ok) (hM : F.Mat n A) (j i : Nat) : F.el (nth (nthL A j) i) := by
 rcases Nat.lt_or_ge j A.length with h | h
 · exact nth_el ok hM h i
 · rw [nthL, List.getD_eq_getElem?_getD, List.getElem?_eq_none h]
   exact zero_el ok
theorem nulV_or (ok : F.Ok) (hE : Ech F n m pv) {c : Nat} (hc : c < n) (hcp : c ∉ pv) : Or F n m (nth (nulV F m (pv.map fun (x : Nat) => (x : Int)) n c)) := fun j hj => by
 obtain ⟨h1, h2, h3⟩ := nulV_nth hE hc hcp
 have hjp : j < pv.length := by rw [hE.len]; exact hj
 have hne : c ≠ pv.getD j 0 := fun h => hcp (h ▸ getD_mem hjp)
 have hcel := row_el ok hE.mat j c
 rw [dt, sum_two ok (a := c) (b := pv.getD j 0) hc (hE.lt j hjp) hne (fun _ => mul_el ok _ _) (fun i hi hic hip => ?_), h1, h2 j hjp, hE.one j j hjp hjp, if_pos rfl, mul_comm' ok _ 1, one_mul' ok hcel, one_mul' ok (sub_el' ok _ _), add_neg' ok hcel]
 by_cases hm : i ∈ pv
 · obtain ⟨l, hl, rfl⟩ := mem_getD hm
   rw [hE.one j l hjp hl, if_neg (fun e => hip (by rw [e])), zero_mul_all ok]
 · rw [h3 i hic hm, mul_zero_all ok]
def combT (F : FD) (m : List (List Int)) (pv : List Nat) (n : Nat) (v : Nat → Int) : Nat → Nat → Int
 | 0 => fun _ => 0
 | c + 1 => if c ∈ pv then combT F m pv n v c else fun i => F.add (combT F m pv n v c i) (F.mul (v c) (nth (nulV F m (pv.map fun (x : Nat) => (x : Int)) n c) i))
theorem nulTo_in (F : FD) (m : List (List Int)) (pv : List Nat) (n c : Nat) (h : c ∈ pv) : nulTo F m (pv.map fun (x : Nat) => (x : Int)) n (c + 1) = nulTo F m (pv.map fun (x : Nat) => (x : Int)) n c := by rw [nulTo, if_pos ((piv_has pv c).2 h)]
theorem nulTo_out (F : FD) (m : List (List Int)) (pv : List Nat) (n c : Nat) (h : c ∉ pv) : nulTo F m (pv.map fun (x : Nat) => (x : Int)) n (c + 1) = nulTo F m (pv.map fun (x : Nat) => (x : Int)) n c ++ [nulV F m (pv.map fun (x : Nat) => (x : Int)) n c] := by rw [nulTo, if_neg fun e => h ((piv_has pv c).1 e)]
theorem combT_sp (ok : F.Ok) {v : Nat → Int} (hv : ∀ i, F.el (v i)) (c : Nat) : Sp F (nulTo F m (pv.map fun (x : Nat) => (x : Int)) n c) (combT F m pv n v c) := by
 induction c with
 | zero => exact .zero
 | succ c ih =>
  by_cases h : c ∈ pv
  · rw [nulTo_in F m pv n c h, combT, if_pos h]; exact ih
  · rw [nulTo_out F m pv n c h, combT, if_neg h]
    have h2 := (ih.snoc (x := nulV F m (pv.map fun (x : Nat) => (x : Int)) n c) ok).step (j := (nulTo F m (pv.map fun (x : Nat) => (x : Int)) n c).length) (by rw [List.length_append]; exact Nat.lt_succ_self _) (hv c)
    rwa [nthL_snoc_eq] at h2
theorem nulTo_or (ok : F.Ok) (hE : Ech F n m pv) : ∀ c, c ≤ n → ∀ j, j < (nulTo F m (pv.map fun (x : Nat) => (x : Int)) n c).length → Or F n m (nth (nthL (nulTo F m (pv.map fun (x : Nat) => (x : Int)) n c) j)) := by
 intro c
 induction c with
 | zero => intro _ j hj; simp [nulTo] at hj
 | succ c ih =>
  intro hc j hj
  by_cases h : c ∈ pv
  · rw [nulTo_in F m pv n c h] at hj ⊢; exact ih (by omega) j hj
  · rw [nulTo_out F m pv n c h] at hj ⊢
    rw [List.length_append, List.length_singleton] at hj
    rcases Nat.lt_or_ge j (nulTo F m (pv.map fun (x : Nat) => (x : Int)) n c).length with h1 | h1
    · rw [nthL_snoc_lt h1]; exact ih (by omega) j h1
    · rw [show j = (nulTo F m (pv.map fun (x : Nat) => (x : Int)) n c).length by omega, nthL_snoc_eq]
      exact nulV_or ok hE (by omega) h
theorem combT_nth (ok : F.Ok) (hE : Ech F n m pv) {v : Nat → Int} (hv : ∀ i, F.el (v i)) {i : Nat} (hip : i ∉ pv) : ∀ c, c ≤ n → combT F m pv n v c i = if i < c then v i else 0 := by
 intro c
 induction c with
 | zero => intro _; rw [if_neg (by omega)]; rfl
 | succ c ih =>
  intro hc
  have ih := ih (by omega)
  by_cases h : c ∈ pv
  · have hne : i ≠ c := fun e => hip (e ▸ h)
    rw [combT, if_pos h, ih]
    by_cases h1 : i < c
    · rw [if_pos h1, if_pos (by omega)]
    · rw [if_neg h1, if_neg (by omega)]
  · obtain ⟨h1, _, h3⟩ := nulV_nth hE (show c < n by omega) h
    rw [combT, if_neg h]
    show F.add (combT F m pv n v c i) (F.mul (v c) (nth (nulV F m (pv.map fun (x : Nat) => (x : Int)) n c) i)) = _
    rw [ih]
    by_cases e : i = c
    · subst e
      rw [if_neg (by omega), if_pos (by omega), h1, mul_comm' ok, one_mul' ok (hv i), zero_add' ok (hv i)]
    · rw [h3 i e hip, mul_zero_all ok]
      by_cases h4 : i < c
      · rw [if_pos h4, if_pos (by omega), add_zero' ok (hv i)]
      · rw [if_neg h4, if_neg (by omega), add_zero' ok (zero_el ok)]
theorem or_nul (ok : F.Ok) (hE : Ech F n m pv) {v : Nat → Int} (hv : ∀ i, F.el (v i)) (hb : ∀ i, n ≤ i → v i = 0) (ho : Or F n m v) : Sp F (nulTo F m (pv.map fun (x : Nat) => (x : Int)) n n) v := by
 have hs := combT_sp (m := m) (pv := pv) (n := n) ok hv n
 have hM : F.Mat n (nulTo F m (pv.map fun (x : Nat) => (x : Int)) n n) := nulTo_Mat ok _ _ _ _
 have hso : Or F n m (combT F m pv n v n) := or_sp ok (nulTo_or ok hE n (Nat.le_refl _)) hs
 have hd : ∀ i, i ∉ pv → F.sub (v i) (combT F m pv n v n i) = 0 := fun i hi => by
  rcases Nat.lt_or_ge i n with h | h
  · rw [combT_nth ok hE hv hi n (Nat.le_refl _), if_pos h, sub_self' ok]
  · rw [hb i h, hs.big ok hM h, sub_self' ok]
 have hdo : ∀ j, j < m.length → dt F n (nth (nthL m j)) (fun i => F.sub (v i) (combT F m pv n v n i)) = 0 := fun j hj => by
  have e : (fun i => F.sub (v i) (combT F m pv n v n i)) = fun i => F.add (v i) (F.mul (F.sub 0 1) (combT F m pv n v n i)) := by
   funext i
   have h := add_neg_mul' ok (v i) 1 (combT F m pv n v n i)
   rw [one_mul' ok (hs.el ok i)] at h
   exact h.symm
  rw [e, dt_comm ok, dt_add ok, dt_mul ok, dt_comm ok, ho j hj, dt_comm ok, hso j hj, mul_zero_all ok, add_zero' ok (zero_el ok)]
 have hz : ∀ l, l < pv.length → F.sub (v (pv.getD l 0)) (combT F m pv n v n (pv.getD l 0)) = 0 := fun l hl => by
  have h := hdo l (by rw [← hE.len]; exact hl)
  rw [dt, sum_one ok (l := pv.getD l 0) (hE.lt l hl) (mul_el ok _ _) (fun i hi hne => ?_), hE.one l l hl hl, if_pos rfl, one_mul' ok (sub_el' ok _ _)] at h
  · exact h
  · by_cases hm : i ∈ pv
    · obtain ⟨k, hk, rfl⟩ := mem_getD hm
      rw [hE.one l k hl hk, if_neg (fun e => hne (by rw [e])), zero_mul_all ok]
    · rw [hd i hm, mul_zero_all ok]
 have e : combT F m pv n v n = v := by
  funext i
  refine (eq_of_sub ok (hv i) (hs.el ok i) ?_).symm
  by_cases hm : i ∈ pv
  · obtain ⟨k, hk, rfl⟩ := mem_getD hm
    exact hz k hk
  · exact hd i hm
 rwa [e] at hs
theorem nulTo_rank (hG : F.Good) (hE : Ech F n m pv) : ∀ c, c ≤ n → (form F (nulTo F m (pv.map fun (x : Nat) => (x : Int)) n c) n).length = (nulTo F m (pv.map fun (x : Nat) => (x : Int)) n c).length := by
 have ok := hG.ok
 intro c
 induction c with
 | zero => intro _; rw [nulTo, form_nil]
 | succ c ih =>
  intro hc
  have ih := ih (by omega)
  by_cases h : c ∈ pv
  · rw [nulTo_in F m pv n c h]; exact ih
  · rw [nulTo_out F m pv n c h]
    have hM : F.Mat n (nulTo F m (pv.map fun (x : Nat) => (x : Int)) n c) := nulTo_Mat ok _ _ _ _
    have hv : (nulV F m (pv.map fun (x : Nat) => (x : Int)) n c).length = n ∧ ∀ x ∈ nulV F m (pv.map fun (x : Nat) => (x : Int)) n c, 0 ≤ x ∧ x < F.n := ⟨nulIn_len _ _ _ _ _ _, nulIn_el ok _ _ _ _ _⟩
    have hr := rank_iff hG hM hv
    obtain ⟨pa, _, hA, hsa⟩ := form_ech hG hM
    obtain ⟨pb, _, hB, hsb⟩ := form_ech hG (Mat_snoc hM hv)
    have hge := Ech.len_le ok hA hB fun v h => (hsb v).2 (((hsa v).1 h).snoc ok)
    have hle : (form F (nulTo F m (pv.map fun (x : Nat) => (x : Int)) n c ++ [nulV F m (pv.map fun (x : Nat) => (x : Int)) n c]) n).length ≤ (nulTo F m (pv.map fun (x : Nat) => (x : Int)) n c).length + 1 := by
     rw [form_len]
     have := red_piv F (nulTo F m (pv.map fun (x : Nat) => (x : Int)) n c ++ [nulV F m (pv.map fun (x : Nat) => (x : Int)) n c]) n
     rwa [List.length_append, List.length_singleton] at this
    rw [List.length_append, List.length_singleton]
    by_cases heq : (form F (nulTo F m (pv.map fun (x : Nat) => (x : Int)) n c ++ [nulV F m (pv.map fun (x : Nat) => (x : Int)) n c]) n).length = (form F (nulTo F m (pv.map fun (x : Nat) => (x : Int)) n c) n).length
    · exfalso
      have hsp := hr.1 heq
      have hz : ∀ t, t ≤ c → ∀ w, Sp F (nulTo F m (pv.map fun (x : Nat) => (x : Int)) n t) w → w c = 0 := by
       intro t ht w hw
       have hrow : ∀ t, t ≤ c → ∀ j, j < (nulTo F m (pv.map fun (x : Nat) => (x : Int)) n t).length → nth (nthL (nulTo F m (pv.map fun (x : Nat) => (x : Int)) n t) j) c = 0 := by
        intro t
        induction t with
        | zero => intro _ j hj; simp [nulTo] at hj
        | succ t iht =>
         intro ht j hj
         by_cases htp : t ∈ pv
         · rw [nulTo_in F m pv n t htp] at hj ⊢; exact iht (by omega) j hj
         · rw [nulTo_out F m pv n t htp] at hj ⊢
           rw [List.length_append, List.length_singleton] at hj
           rcases Nat.lt_or_ge j (nulTo F m (pv.map fun (x : Nat) => (x : Int)) n t).length with h1 | h1
           · rw [nthL_snoc_lt h1]; exact iht (by omega) j h1
           · rw [show j = (nulTo F m (pv.map fun (x : Nat) => (x : Int)) n t).length by omega, nthL_snoc_eq]
             exact (nulV_nth hE (show t < n by omega) htp).2.2 c (by omega) h
       induction hw with
       | zero => rfl
       | @step w j x hs hj hx ihw =>
        show F.add (w c) (F.mul x (nth (nthL (nulTo F m (pv.map fun (x : Nat) => (x : Int)) n t) j) c)) = 0
        rw [ihw, hrow t ht j hj, mul_zero_all ok, add_zero' ok (zero_el ok)]
      have h1 := hz c (Nat.le_refl _) _ hsp
      rw [(nulV_nth hE (show c < n by omega) h).1] at h1
      omega
    · omega
theorem nulTo_count (F : FD) (m : List (List Int)) (pv : List Nat) (n c : Nat) : (nulTo F m (pv.map fun (x : Nat) => (x : Int)) n c).length + ((List.range c).filter fun i => decide (i ∈ pv)).length = c := by
 induction c with
 | zero => rfl
 | succ c ih =>
  rw [List.range_succ, List.filter_append, List.length_append]
  by_cases h : c ∈ pv
  · rw [nulTo_in F m pv n c h]
    simp only [h, decide_true, List.filter_cons_of_pos, List.filter_nil, List.length_singleton]
    omega
  · rw [nulTo_out F m pv n c h, List.length_append, List.length_singleton]
    simp only [h, decide_false, Bool.false_eq_true, not_false_eq_true, List.filter_cons_of_neg, List.filter_nil, List.length_nil]
    omega
theorem piv_count (hE : Ech F n m pv) : ((List.range n).filter fun i => decide (i ∈ pv)).length = pv.length := by
 refine Nat.le_antisymm (nodup_len (List.Pairwise.filter _ List.nodup_range) fun x hx => ?_) (nodup_len hE.nodup fun x hx => ?_)
 · have := (List.mem_filter.1 hx).2
   simpa using this
 · obtain ⟨l, hl, rfl⟩ := mem_getD hx
   exact List.mem_filter.2 ⟨List.mem_range.2 (hE.lt l hl), by simpa using hx⟩
theorem nul_spec (hG : F.Good) (hM : F.Mat n m) : (∀ v : Nat → Int, (∀ i, F.el (v i)) → (∀ i, n ≤ i → v i = 0) → (Sp F (nul F m n) v ↔ Or F n m v)) ∧ (nul F m n).length + (form F m n).length = n := by
 have ok := hG.ok
 obtain ⟨pv, hpv, hE, hs⟩ := form_ech hG hM
 have hB : nulB F m n = nulTo F (form F m n) (pv.map fun (x : Nat) => (x : Int)) n n := by rw [nulB, hpv]
 have hNM : F.Mat n (nulTo F (form F m n) (pv.map fun (x : Nat) => (x : Int)) n n) := nulTo_Mat ok _ _ _ _
 obtain ⟨pb, _, _, hsn⟩ := form_ech hG hNM
 refine ⟨fun v hv hb => ?_, ?_⟩
 · rw [nul, hB, hsn v, or_all ok (fun v => (hs v).symm) hM hE.mat]
   exact ⟨fun h => or_sp ok (nulTo_or ok hE n (Nat.le_refl _)) h, fun h => or_nul ok hE hv hb h⟩
 · have h1 := nulTo_rank hG hE n (Nat.le_refl _)
   have h2 := nulTo_count F (form F m n) pv n n
   have h3 := piv_count hE
   have h4 := hE.len
   rw [nul, hB, h1]
   omega
end
end Go.Proofs.YtkiljcbejmiioaaGreat
namespace Go.Proofs.YtkiljcbejmiioaaGreat
open Go.RowKit
attribute [local go_sem ↓] Go.wp_at_zero Go.wp_at_succ
def prodTo (F : FD) (a cs : List (List Int)) (i : Nat) : List (List Int) := (a.take i).map fun row => cs.map (dotF F row)
def lineTo (F : FD) (row : List Int) (cs : List (List Int)) (k : Nat) : List Int := (cs.take k).map (dotF F row)
theorem prodTo_len (F : FD) (a cs : List (List Int)) {i : Nat} (hi : i ≤ a.length) : (prodTo F a cs i).length = i := by rw [prodTo, List.length_map, List.length_take]; omega
theorem prodTo_succ (F : FD) (a cs : List (List Int)) {i : Nat} (hi : i < a.length) : prodTo F a cs (i + 1) = prodTo F a cs i ++ [cs.map (dotF F (nthL a i))] := by rw [prodTo, prodTo, take_nthL hi, List.map_append]; rfl
theorem lineTo_len (F : FD) (row : List Int) (cs : List (List Int)) {k : Nat} (hk : k ≤ cs.length) : (lineTo F row cs k).length = k := by rw [lineTo, List.length_map, List.length_take]; omega
theorem lineTo_succ (F : FD) (row : List Int) (cs : List (List Int)) {k : Nat} (hk : k < cs.length) : lineTo F row cs (k + 1) = lineTo F row cs k ++ [dotF F row (nthL cs k)] := by rw [lineTo, lineTo, take_nthL hk, List.map_append]; rfl
theorem cols_Mat {F : FD} (ok : F.Ok) {n : Nat} {m : List (List Int)} (h : F.Mat n m) : F.Mat m.length (cols m n) := by
 have n2 := ok.n_bd
 intro xs hx
 rw [cols, List.mem_map] at hx
 obtain ⟨j, hj, rfl⟩ := hx
 refine ⟨by rw [List.length_map], fun x hx => ?_⟩
 rw [List.mem_map] at hx
 obtain ⟨row, hr, rfl⟩ := hx
 have := h row hr
 rw [List.mem_range] at hj
 exact this.2 _ (nth_mem (by rw [this.1]; exact hj))
theorem cols_cols {F : FD} {n : Nat} {m : List (List Int)} (h : F.Mat n m) : cols (cols m n) m.length = m := by
 refine eq_of_nthL (cols_len _ _) fun i hi => ?_
 rw [cols_len] at hi
 rw [cols_nth _ hi]
 have hl := (Mat_nth h hi).1
 refine eq_of_nth (by rw [List.length_map, cols_len, hl]) fun k hk => ?_
 rw [List.length_map, cols_len] at hk
 rw [nth_lt (by rw [List.length_map, cols_len]; exact hk), List.getElem_map, ← nthL_lt (by rw [cols_len]; exact hk), cols_nth m hk, nth_lt (by rw [List.length_map]; exact hi), List.getElem_map, ← nthL_lt hi]
theorem times_any (F : FD) (tv : Value) (aa : Option Addr) (ac : Nat) (a : List (List Int)) (ba : Option Addr) (bc : Nat) (b : List (List Int)) (na nb : Nat) (w : World) (hT : Tabs w F tv) (ok : F.Ok) (hx : RdS w aa a) (hy : RdS w ba b) (hMa : F.Mat na a) (hMb : F.Mat nb b) (hbl : b.length = na) (h0 : 0 < b.length) (hnb : nb ≤ 1000000) (hna : na ≤ 1000000) (hal : a.length ≤ 1000000) :
    Calls Tryz.prog 102 #[tv, .slice aa a.length ac, .slice ba b.length bc] w fun e w' => ∃ v, e = .returned v ∧ OwnS w' w.heap.size v (prodTo F a (cols b nb) a.length) ∧ Below w.heap.size w w' := by
 have hT0 := hT
 obtain ⟨aA, cA, aS, cS, aM, cM, aI, cI, rfl, _, _, _, _⟩ := hT
 obtain ⟨n2, n64⟩ := ok.n_bd
 obtain ⟨W0, hHW⟩ : ∃ z, z = w.alloc (.cells #[.int .i64 F.n, .slice aA F.n cA, .slice aS F.n cS, .slice aM F.n cM, .slice aI F.n cI] 60) := ⟨_, rfl⟩
 have b0 : Below w.heap.size w W0 := by rw [hHW]; exact (Below.refl _ _).alloc (Nat.le_refl _) _
 have kT : Blk W0 w.heap.size 60 #[.int .i64 F.n, .slice aA F.n cA, .slice aS F.n cS, .slice aM F.n cM, .slice aI F.n cI] := by rw [hHW]; exact Blk.new _ _ _ rfl
 have skT : w.heap.size < W0.heap.size := kT.lt
 have HW := Lib.hid hHW
 clear hHW
 have hCO := columnsOf_any ba bc b nb W0 (hy.below b0) (fun xs hx => (hMb xs hx).1) hnb (by omega)
 have hcM := cols_Mat ok hMb
 rw [hbl] at hcM
 have hcl := cols_len b nb
 obtain ⟨gb, ob, rfl, hgb, hcc⟩ := (hy.below b0).at_ h0
 obtain ⟨ai, ci, hr0, _⟩ := hcc 0 h0
 rw [Nat.add_zero, (Mat_nth hMb h0).1] at hr0
 obtain ⟨cs, hcs⟩ : ∃ cs, cs = cols b nb := ⟨_, rfl⟩
 rw [← hcs] at hCO hcM hcl ⊢
 have hDT : ∀ (i k : Nat) (_ : i < a.length) (_ : k < cs.length) a1 c1 a2 c2 W (_ : Tabs W F (.agg #[.int .i64 F.n, .slice aA F.n cA, .slice aS F.n cS, .slice aM F.n cM, .slice aI F.n cI])) (_ : Rd W a1 (nthL a i)) (_ : Rd W a2 (nthL cs k)), Calls Tryz.prog 137 #[.agg #[.int .i64 F.n, .slice aA F.n cA, .slice aS F.n cS, .slice aM F.n cM, .slice aI F.n cI], .slice a1 na c1, .slice a2 na c2] W fun e w' => e = .returned (.int .i64 (dotF F (nthL a i) (nthL cs k))) ∧ Below W.heap.size W w' := fun i k hi hk a1 c1 a2 c2 W hT r1 r2 =>
  dot_any F _ a1 a2 c1 c2 (nthL a i) (nthL cs k) na W hT ok r1 r2 (Mat_nth hMa hi).1 (Mat_nth hcM hk).1 (Mat_nth hMa hi).2 (Mat_nth hcM hk).2
 have hal2 : ∀ i, i < a.length → (nthL a i).length = na := fun i hi => (Mat_nth hMa hi).1
 have hcl2 : ∀ k, k < cs.length → (nthL cs k).length = na := fun k hk => (Mat_nth hcM hk).1
 have hcle : cs.length ≤ 1000000 := by omega
 have HCO := hide hCO
 have HDT := hide hDT
 have HAL := hide hal2
 have HCL := hide hcl2
 have HX := hide (hx.below b0)
 have HT := hide (hT0.below b0)
 clear hCO hDT hal2 hcl2 hx hy hMa hMb hcM hcs hcl hcc hT0 hbl
 go_enter Tryz.func102, Tryz.ntmps102
 go_upto_region 1 with fail
 rw [← HW.out]
 go_wp2_with fail
 refine (unhide HCO).mono ?_
 rintro e w1 ⟨v1, rfl, o1, b1⟩
 obtain ⟨a1, c1, rfl, r1⟩ := o1.form
 have z1 := b1.size
 have R1 := hide r1
 have KT := hide (kT.below b1 kT.lt)
 have HT1 := hide ((unhide HT).below b1)
 have HX1 := hide ((unhide HX).below b1)
 have bw1 := b0.trans (b1.mono (Nat.le_of_lt skT))
 clear o1 r1
 go_wp2_with fail
 go_loopw [7, 22] (fun v iv wr => ∃ i : Nat, iv = .int .i64 i ∧ i ≤ a.length ∧ Hid (OwnS wr w1.heap.size v (prodTo F a cs i)) ∧ Below w1.heap.size w1 wr) (fun _ iv _ => a.length - (intOf iv).toNat)
 case atStart => exact ⟨0, rfl, Nat.zero_le _, OwnS.nil _ _, Below.refl _ _⟩
 case round =>
  obtain ⟨i, rfl, hi, ho, hb⟩ := hrel
  rename World => wo
  have hsz := hb.size
  by_cases hil : i < a.length
  · obtain ⟨gx, ox, rfl, _, hcx⟩ := ((unhide HX1).below hb).at_ (by omega)
    obtain ⟨ax, cx, hx1, hxr⟩ := hcx i hil
    rw [unhide HAL i hil] at hx1
    have HXR := hide hxr
    clear hcx hxr
    go_wp2_with fail
    go_loopw [11, 28] (fun v kv wr => ∃ k : Nat, kv = .int .i64 k ∧ k ≤ cs.length ∧ Hid (Own wr wo.heap.size v (lineTo F (nthL a i) cs k)) ∧ Below wo.heap.size wo wr) (fun _ kv _ => cs.length - (intOf kv).toNat)
    case atStart => exact ⟨0, rfl, Nat.zero_le _, Own.nil _ _, Below.refl _ _⟩
    case round =>
     obtain ⟨k, rfl, hk, ho2, hb2⟩ := hrel
     have hz2 := hb2.size
     have hb12 := hb.trans (hb2.mono hsz)
     by_cases hkl : k < cs.length
     · obtain ⟨gc, oc, rfl, _, hcc⟩ := ((unhide R1).below hb12).at_ (by omega)
       obtain ⟨ay, cy, hy1, hyr⟩ := hcc k hkl
       rw [unhide HCL k hkl] at hy1
       have hd := unhide HDT i k hil hkl ax cx ay cy wr ((unhide HT1).below hb12) ((unhide HXR).below hb2) hyr
       have hst := lineTo_succ F (nthL a i) cs hkl
       have hsl := lineTo_len F (nthL a i) cs hk
       obtain ⟨D, hD⟩ : ∃ D, D = dotF F (nthL a i) (nthL cs k) := ⟨_, rfl⟩
       rw [← hD] at hd hst
       have HD := hide hd
       have HST := Lib.hid hst
       have HSL := Lib.hid hsl
       have kk := (unhide KT).below hb12 (unhide KT).lt
       have g0 := kk.cell 0
       have g1 := kk.cell 1
       have g2 := kk.cell 2
       have g3 := kk.cell 3
       have g4 := kk.cell 4
       clear hd hst hD hsl hcc hyr
       go_wp2_with fail
       refine (unhide HD).mono ?_
       rintro e w6 ⟨rfl, b6⟩
       have o6 := ho2.out.below b6 (Nat.le_refl _)
       have hb6 := hb2.trans (b6.mono hz2)
       have z6 := hb6.size
       go_wp2_with (at_builtin; refine wpList_append_ints rfl (.tmp 32) (.tmp 37) rfl wo.heap.size u11 (lineTo F (nthL a i) cs k) [D] rfl (o6.alloc _) _ 1 1 rfl rfl (Rd.one w6 D _) (by rw [HSL.out]; simp; omega) (by simp; omega) ?_; intro v7 w7 o7 g7 _)
       go_roundw
       case rel => exact ⟨k + 1, by go_num, by omega, by show Own _ _ _ _; rw [HST.out]; exact o7, Below.step (hb6.alloc z6 _) g7 (o6.alloc _) (Nat.le_refl _) (by simp; omega)⟩
       case measure => simp only [intOf]; omega
     · have hke : k = cs.length := by omega
       have HE := Lib.hid hke
       clear hke
       have o5 := ho2.out
       have hli : lineTo F (nthL a i) cs cs.length = cs.map (dotF F (nthL a i)) := by rw [lineTo, List.take_length]
       rw [HE.out, hli] at o5
       have hst := prodTo_succ F a cs hil
       have hsl := prodTo_len F a cs hi
       have hll : (cs.map (dotF F (nthL a i))).length = cs.length := by simp
       obtain ⟨line, hline⟩ : ∃ line, line = cs.map (dotF F (nthL a i)) := ⟨_, rfl⟩
       rw [← hline] at o5 hst hll
       obtain ⟨a5, c5, rfl⟩ := o5.slice_val
       have hH := ho.out.toH.belw hb2 (Nat.le_refl _)
       have HST := Lib.hid hst
       have HSL := Lib.hid hsl
       have O5 := Lib.hid o5
       clear o5 hst hsl hll hline hli
       go_wp2_with (at_builtin; refine wpList_append_row rfl (.tmp 40) (.tmp 42) rfl (v := u7) rfl (hH.belw ((Below.refl _ _).alloc (Nat.le_refl _) _) hz2) _ rfl ((Blk.new wr 28 #[.slice a5 line.length c5] rfl).cell 0) (O5.out.alloc _) hsz (by simp; omega) (by rw [HSL.out]; omega) ?_; intro v2 w2 o2 g2 _)
       go_roundw
       case rel =>
        refine ⟨i + 1, by go_num, by omega, ?_, Below.stepS (hb12.alloc (by omega) _) g2 (hH.belw ((Below.refl _ _).alloc (Nat.le_refl _) _) hz2).own (Nat.le_refl _) (by simp; omega)⟩
        show OwnS _ _ _ _
        rw [HST.out]
        exact o2
       case measure => simp only [intOf]; omega
  · have hke : i = a.length := by omega
    have HE := Lib.hid hke
    clear hke
    go_wp2
    go_ret
    exact ⟨_, rfl, by have o := ho.out; rw [HE.out] at o; exact o.mono bw1.size, bw1.trans (hb.mono bw1.size)⟩
end Go.Proofs.YtkiljcbejmiioaaGreat
