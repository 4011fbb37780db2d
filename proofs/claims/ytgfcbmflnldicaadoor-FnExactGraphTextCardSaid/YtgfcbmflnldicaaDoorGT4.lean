/-
  Texts joined.
-/
import Derived.Deep.DeepCutAuto
import Derived.Deep.DrawnRows
import Derived.Deep.RegionHeld3
import Derived.Test.YtgfcbmflnldicaaDoorGT1
import Derived.Test.YtgfcbmflnldicaaDoorGT3
set_option linter.unusedVariables false
set_option linter.unusedSimpArgs false
set_option maxRecDepth 100000
set_option maxHeartbeats 40000000
namespace Go.Proofs.YtgfcbmflnldicaaDoor
open Go.RowKit
attribute [local go_sem ↓] Go.wp_at_zero Go.wp_at_succ
def wOf {B : Nat} {a b : World} (_ : Below B a b) : World := b
theorem OwnE.storeBelow {w : World} {B : Nat} {v : Value} {es : List (Int × Int)} (h : OwnE w B v es) {p : Addr} (hp : p.block < B) (u : Value) : OwnE (w.setCell p u) B v es := ⟨h.1, ownsRow_setCell_below h.2 hp u⟩
def OwnG (w : World) (B : Nat) (v u : Value) (xs : List Int) (es : List (Int × Int)) : Prop := ∃ M, B ≤ M ∧ Own w B v xs ∧ In v B M ∧ OwnE w M u es
theorem OwnG.form {w : World} {B : Nat} {v u : Value} {xs : List Int} {es : List (Int × Int)} (h : OwnG w B v u xs es) :
    ∃ a c ra rc, v = .slice a xs.length c ∧ u = .slice ra es.length rc ∧ Rd w a xs ∧ RdE w ra es := by
 obtain ⟨M, _, h2, _, h4⟩ := h
 obtain ⟨a, c, e, r, _⟩ := h2.form
 obtain ⟨ra, rc, e', r', _⟩ := h4.form
 exact ⟨a, c, ra, rc, e, e', r, r'⟩
theorem OwnG.below {w w' : World} {B B1 : Nat} {v u : Value} {xs : List Int} {es : List (Int × Int)} (h : OwnG w B v u xs es) (hb : Below B1 w w') (hlt : w.heap.size ≤ B1) : OwnG w' B v u xs es := by
 obtain ⟨M, h1, h2, h3, h4⟩ := h
 exact ⟨M, h1, h2.below hb hlt, h3, h4.below hb hlt⟩
theorem OwnG.storeBelow {w : World} {B : Nat} {v u : Value} {xs : List Int} {es : List (Int × Int)} (h : OwnG w B v u xs es) {p : Addr} (hp : p.block < B) (x : Value) : OwnG (w.setCell p x) B v u xs es := by
 obtain ⟨M, h1, h2, h3, h4⟩ := h
 exact ⟨M, h1, h2.storeBelow hp x, h3, h4.storeBelow (by omega) x⟩
theorem OwnG.mono {w : World} {B B' : Nat} {v u : Value} {xs : List Int} {es : List (Int × Int)} (h : OwnG w B v u xs es) (hB : B' ≤ B) : OwnG w B' v u xs es := by
 obtain ⟨M, h1, h2, h3, h4⟩ := h
 exact ⟨M, by omega, h2.mono hB, fun k hk => by have := h3 k hk; omega, h4⟩
def sameG (xs : List Int) (es : List (Int × Int)) (ys : List Int) (fs : List (Int × Int)) : Bool := decide (xs = ys) && decide (es = fs)
theorem sameG_self (xs : List Int) (es : List (Int × Int)) : sameG xs es xs es = true := by simp [sameG]
theorem sameG_no {xs ys : List Int} {es fs : List (Int × Int)} (h : decide (xs = ys) = false) : sameG xs es ys fs = false := by simp [sameG, h]
theorem sameG_yes {xs ys : List Int} {es fs : List (Int × Int)} (h : decide (xs = ys) = true) : sameG xs es ys fs = decide (es = fs) := by simp [sameG, h]
theorem eqEdgeS_any (a b : Option Addr) (c d : Nat) (xs ys : List (Int × Int)) (w : World) (hx : RdE w a xs) (hy : RdE w b ys) :
    Calls Tryd.prog 20 #[.slice a xs.length c, .slice b ys.length d] w fun e w' => e = .returned (.bool (decide (xs = ys))) ∧ Below w.heap.size w w' := by
 have hxl := hx.len
 have hyl := hy.len
 by_cases hl : xs.length = ys.length
 · have HL := Lib.hid hl
   generalize hn : ys.length = n at hl hyl
   subst hl
   clear hn
   go_enter Tryd.func20, Tryd.ntmps20
   go_wp2
   go_loopw [5] (fun i wr => ∃ (k : Nat), i = .int .i64 k ∧ k ≤ xs.length ∧ Below w.heap.size w wr ∧ Hid (∀ j, j < k → nthE xs j = nthE ys j)) (fun i _ => xs.length - (intOf i).toNat)
   case atStart => exact ⟨0, rfl, by omega, Below.refl _ _, fun j hj => by omega⟩
   case round =>
    obtain ⟨k, rfl, hk, hb, hq⟩ := hrel
    have sr := hb.size
    by_cases hkl : k < xs.length
    · obtain ⟨b1, o1, rfl, hb1, hcx⟩ := hx.at_ (by omega)
      obtain ⟨b2, o2, rfl, hb2, hcy⟩ := hy.at_ (by rw [← HL.out]; omega)
      have key : ∀ W : World, Below wr.heap.size wr W → (Below wr.heap.size wr W ∧ W.cell? ⟨b1, o1 + k * 2, none⟩ = some (.int .i64 (nthE xs k).1) ∧ W.cell? ⟨b1, o1 + k * 2 + 1, none⟩ = some (.int .i64 (nthE xs k).2) ∧ W.cell? ⟨b2, o2 + k * 2, none⟩ = some (.int .i64 (nthE ys k).1) ∧ W.cell? ⟨b2, o2 + k * 2 + 1, none⟩ = some (.int .i64 (nthE ys k).2)) := fun W h => by
       have hh := hb.trans (h.mono sr)
       have e1 := hcx k hkl
       have e2 := hcy k (by rw [← HL.out]; omega)
       exact ⟨h, (hh.cell hb1).trans e1.1, (hh.cell hb1).trans e1.2, (hh.cell hb2).trans e2.1, (hh.cell hb2).trans e2.2⟩
      have BX := hide key
      have HB := Lib.hid hb
      clear key hcx hcy hx hy hb
      go_upto_region 6 with fail
      go_cut [26] (fun v wx => v = .bool (!(eqE (nthE xs k) (nthE ys k))) ∧ Below wr.heap.size wr wx)
      case first =>
       go_region_held3 (fun W => Below wr.heap.size wr W ∧ W.cell? ⟨b1, o1 + k * 2, none⟩ = some (.int .i64 (nthE xs k).1) ∧ W.cell? ⟨b1, o1 + k * 2 + 1, none⟩ = some (.int .i64 (nthE xs k).2) ∧ W.cell? ⟨b2, o2 + k * 2, none⟩ = some (.int .i64 (nthE ys k).1) ∧ W.cell? ⟨b2, o2 + k * 2 + 1, none⟩ = some (.int .i64 (nthE ys k).2))
        (first | exact (unhide BX) _ (Below.refl _ _) | exact (unhide BX) _ ((Below.refl _ _).drew) | exact (unhide BX) _ (by assumption))
        (first
         | (go_at_call 37; refine (eqEdge_any (nthE xs k) (nthE ys k) _).mono ?_; rintro e W3 ⟨rfl, bb3⟩; have hB3 := Below.chain (a := wr) (And.left (by assumption)) bb3))
       go_wp2
       go_meet
       exact ⟨rfl, hB3⟩
      case rest =>
      obtain ⟨rfl, hbc⟩ := hcut
      by_cases he : nthE xs k = nthE ys k
      · have HE := Lib.hid he
        have e0 : (!(eqE (nthE xs k) (nthE ys k))) = false := by simp [eqE, he]
        rw [e0]
        clear he e0
        go_wp2
        go_roundw
        case rel =>
         refine ⟨k + 1, by go_num, by omega, HB.out.trans (hbc.mono sr), fun j hj => ?_⟩
         rcases Nat.lt_succ_iff_lt_or_eq.1 hj with h | rfl
         · exact hq.out j h
         · exact HE.out
        case measure => simp [intOf]; omega
      · have HE := Lib.hid he
        have e0 : (!(eqE (nthE xs k) (nthE ys k))) = true := by
         rw [Bool.not_eq_true', eqE, decide_eq_false_iff_not]
         exact he
        rw [e0]
        clear he e0
        go_wp2
        go_ret
        exact ⟨ret_bool (not_all_eqE HE.out).symm, HB.out.trans (hbc.mono sr)⟩
    · have HB := Lib.hid hb
      clear hb
      go_wp2
      go_ret
      exact ⟨ret_bool (all_eqE HL.out hkl hq.out).symm, HB.out⟩
 · have hne : ((xs.length : Int) != (ys.length : Int)) = true := by rw [bne_iff_ne]; omega
   have hd : decide (xs = ys) = false := by rw [decide_eq_false_iff_not]; rintro rfl; exact hl rfl
   have HD := Lib.hid hd
   clear hd
   go_enter Tryd.func20, Tryd.ntmps20
   go_wp2
   go_ret
   exact ⟨ret_bool HD.out.symm, Below.refl _ _⟩
theorem szGraph_any (a : Option Addr) (n c : Nat) (b : Option Addr) (m cb : Nat) (k : Int) (w : World) (hn : n ≤ maxLen) (hm : m ≤ maxLen) (hk0 : 0 ≤ k) (hk1 : k ≤ 1048576) :
    Calls Tryd.prog 4 #[.agg #[.slice a n c, .slice b m cb], .int .i64 k] w fun e w' => e = .returned (.int .i64 (left k (n + m))) ∧ Below w.heap.size w w' := by
 go_enter Tryd.func4, Tryd.ntmps4
 go_wp2_with fail
 have hA := (Below.refl w.heap.size w).alloc (Nat.le_refl _) (.cells #[.slice a n c, .slice b m cb] 25)
 refine (szInt64S_any a n c k _ hn hk0 hk1).mono ?_
 rintro e w1 ⟨rfl, rfl⟩
 by_cases h : (n : Int) ≤ k
 · rw [left_yes h]
   go_wp2_with fail
   refine (szEdgeS_any b m cb (k - n) _ hm (by omega) (by omega)).mono ?_
   rintro e w2 ⟨rfl, rfl⟩
   by_cases h2 : (m : Int) ≤ k - n
   · rw [left_yes h2]
     go_wp2
     go_ret
     exact ⟨ret_int (by rw [left_add h, left_yes h2]), hA⟩
   · rw [left_no h2]
     go_wp2
     go_ret
     exact ⟨ret_int (by rw [left_add h, left_no (by omega)]), hA⟩
 · rw [left_no h]
   go_wp2
   go_ret
   exact ⟨ret_int (left_add_no (by omega)).symm, hA⟩
theorem toGraph_any (a b : Option Addr) (c cb : Nat) (xs : List Int) (es : List (Int × Int)) (w : World) (hx : Rd w a xs) (he : RdE w b es) :
    Calls Tryd.prog 6 #[.agg #[.slice a xs.length c, .slice b es.length cb]] w fun e w' => ∃ v u, e = .returned (.agg #[v, u]) ∧ OwnG w' w.heap.size v u xs es ∧ Below w.heap.size w w' := by
 go_enter Tryd.func6, Tryd.ntmps6
 go_wp2_with fail
 obtain ⟨wA, hwA⟩ : ∃ wA, wA = w.alloc (.cells #[.slice a xs.length c, .slice b es.length cb] 25) := ⟨_, rfl⟩
 obtain ⟨wB, hwB⟩ : ∃ wB, wB = wA.alloc (.cells #[.slice none 0 0, .slice none 0 0] 30) := ⟨_, rfl⟩
 obtain ⟨wC, hwC⟩ : ∃ wC, wC = wB.alloc (.cells #[.slice none 0 0, .slice none 0 0] 30) := ⟨_, rfl⟩
 have sA : wA.heap.size = w.heap.size + 1 := by rw [hwA]; simp
 have sB : wB.heap.size = w.heap.size + 1 + 1 := by rw [hwB]; simp [sA]
 have sC : wC.heap.size = w.heap.size + 1 + 1 + 1 := by rw [hwC]; simp [sB]
 have kA : Blk wC w.heap.size 25 #[.slice a xs.length c, .slice b es.length cb] := by rw [hwC, hwB, hwA]; exact ((Blk.new _ _ _ rfl).alloc _).alloc _
 have kB : Blk wC (w.heap.size + 1) 30 #[.slice none 0 0, .slice none 0 0] := by rw [hwC, hwB]; exact (Blk.new _ _ _ sA.symm).alloc _
 have kC : Blk wC (w.heap.size + 1 + 1) 30 #[.slice none 0 0, .slice none 0 0] := by rw [hwC]; exact Blk.new _ _ _ sB.symm
 have hb0 : Below w.heap.size w wC := by rw [hwC, hwB, hwA]; exact (((Below.refl _ _).alloc (Nat.le_refl _) _).alloc (by simp) _).alloc (by simp; omega) _
 rw [← hwA, ← hwB, ← hwC]
 refine (toInt64S_any a c xs wC (hx.below hb0)).mono ?_
 rintro e w1 ⟨v1, rfl, o1, b1⟩
 obtain ⟨a1, c1, rfl, _, i1⟩ := o1.form
 have kA1 := kA.below b1 (by omega)
 have kB1 := kB.below b1 (by omega)
 have kC1 := kC.below b1 (by omega)
 have s1 := b1.size
 have hb1 := hb0.trans (b1.mono (by omega))
 have f0 : w1.cell? ⟨w.heap.size + 1 + 1, 0, none⟩ = some (.slice none 0 0) := kC1.cell 0
 have p0 := kC1.frozen 0
 have h3 : w1.cell? ⟨w.heap.size, 1, none⟩ = some (.slice b es.length cb) := kA1.cell 1
 clear hwA hwB hwC
 go_wp2_with fail
 obtain ⟨w2, hw2⟩ : ∃ w2, w2 = w1.setCell ⟨w.heap.size + 1 + 1, 0, none⟩ (.slice a1 xs.length c1) := ⟨_, rfl⟩
 have kB2 : Blk w2 (w.heap.size + 1) 30 #[.slice none 0 0, .slice none 0 0] := by
  rw [hw2]; exact kB1.far (by show w.heap.size + 1 ≠ w.heap.size + 1 + 1; omega) _
 have kC2 : Blk w2 (w.heap.size + 1 + 1) 30 #[.slice a1 xs.length c1, .slice none 0 0] := by
  rw [hw2]; exact kC1.set_ 0 _
 have o2 : Own w2 wC.heap.size (.slice a1 xs.length c1) xs := by
  rw [hw2]; exact o1.storeBelow (by show w.heap.size + 1 + 1 < _; omega) _
 have hb2 : Below w.heap.size w w2 := by
  rw [hw2]; exact hb1.setCell (by show _ ≤ w.heap.size + 1 + 1; omega) _
 have s2 : w2.heap.size = w1.heap.size := by rw [hw2]; simp
 rw [← hw2]
 clear f0 p0 h3 kB1 kC1 o1 hw2
 refine (toEdgeS_any b cb es w2 (he.below hb2)).mono ?_
 rintro e w3 ⟨v3, rfl, o3, b3⟩
 obtain ⟨a3, c3, rfl, _⟩ := o3.form
 have kB3 := kB2.below b3 (by omega)
 have kC3 := kC2.below b3 (by omega)
 have o2' := o2.below b3 (Nat.le_refl _)
 have hb3 := hb2.trans (b3.mono (by omega))
 have f0 : w3.cell? ⟨w.heap.size + 1 + 1, 0, none⟩ = some (.slice a1 xs.length c1) := kC3.cell 0
 have f1 : w3.cell? ⟨w.heap.size + 1 + 1, 1, none⟩ = some (.slice none 0 0) := kC3.cell 1
 have p1 := kC3.frozen 1
 have g0 : w3.cell? ⟨w.heap.size + 1, 0, none⟩ = some (.slice none 0 0) := kB3.cell 0
 have g1 : w3.cell? ⟨w.heap.size + 1, 1, none⟩ = some (.slice none 0 0) := kB3.cell 1
 have q0 := kB3.frozen 0
 have q1 := kB3.frozen 1
 go_wp2
 refine bodyPost_ret (results_cell_row rfl _ _ (w.heap.size + 1) 30 #[.slice a1 xs.length c1, .slice a3 es.length c3] (0, 0) _ rfl
  (((kB3.far (p := ⟨w.heap.size + 1 + 1, 1, none⟩) (by show w.heap.size + 1 ≠ w.heap.size + 1 + 1; omega) _).set_ 0 _).set_ 1 _) Tryd.underlying30 rfl (by kernel_rfl)) rfl ⟨_, _, rfl, ?_, ?_⟩
 · have hC : OwnG w3 wC.heap.size (.slice a1 xs.length c1) (.slice a3 es.length c3) xs es := ⟨w2.heap.size, by omega, o2', fun k hk => by have := i1 k hk; omega, o3⟩
   exact (((hC.storeBelow (by show w.heap.size + 1 + 1 < _; omega) _).storeBelow (by show w.heap.size + 1 < _; omega) _).storeBelow (by show w.heap.size + 1 < _; omega) _).mono (by omega)
 · exact (((hb3.setCell (by show _ ≤ w.heap.size + 1 + 1; omega) _).setCell (by show _ ≤ w.heap.size + 1; omega) _).setCell (by show _ ≤ w.heap.size + 1; omega) _)
theorem eqGraph_any (a b ra rb : Option Addr) (c c' rc rc' : Nat) (xs ys : List Int) (es fs : List (Int × Int)) (w : World) (hx : Rd w a xs) (hy : Rd w b ys) (hes : RdE w ra es) (hfs : RdE w rb fs) :
    Calls Tryd.prog 8 #[.agg #[.slice a xs.length c, .slice ra es.length rc], .agg #[.slice b ys.length c', .slice rb fs.length rc']] w fun e w' => e = .returned (.bool (sameG xs es ys fs)) ∧ Below w.heap.size w w' := by
 obtain ⟨w0, hw0⟩ : ∃ w0, w0 = (w.alloc (.cells #[.slice a xs.length c, .slice ra es.length rc] 30)).alloc (.cells #[.slice b ys.length c', .slice rb fs.length rc'] 30) := ⟨_, rfl⟩
 have hb0 : Below w.heap.size w w0 := by rw [hw0]; exact ((Below.refl _ _).alloc (Nat.le_refl _) _).alloc (by simp) _
 have kA : Blk w0 w.heap.size 30 #[.slice a xs.length c, .slice ra es.length rc] := by rw [hw0]; exact (Blk.new _ _ _ rfl).alloc _
 have kB : Blk w0 (w.heap.size + 1) 30 #[.slice b ys.length c', .slice rb fs.length rc'] := by rw [hw0]; exact Blk.new _ _ _ (by simp)
 have s0 : w0.heap.size = w.heap.size + 1 + 1 := by rw [hw0]; simp
 have HW := Lib.hid hw0
 clear hw0
 go_enter Tryd.func8, Tryd.ntmps8
 go_wp2_with fail
 rw [← HW.out]
 refine (eqInt64S_any a b c c' xs ys w0 (hx.below hb0) (hy.below hb0)).mono ?_
 rintro e w1 ⟨rfl, q1⟩
 have b1 := q1.below w0.heap.size
 have kA1 := kA.below b1 (by omega)
 have kB1 := kB.below b1 (by omega)
 have hb1 := hb0.trans (b1.mono (by omega))
 have f0 : w1.cell? ⟨w.heap.size, 1, none⟩ = some (.slice ra es.length rc) := kA1.cell 1
 have f1 : w1.cell? ⟨w.heap.size + 1, 1, none⟩ = some (.slice rb fs.length rc') := kB1.cell 1
 generalize hr : decide (xs = ys) = r
 have HR := Lib.hid hr
 clear hr HW
 cases r
 · go_wp2
   go_ret
   exact ⟨ret_bool (sameG_no HR.out).symm, hb1⟩
 · go_wp2_with fail
   refine (eqEdgeS_any ra rb rc rc' es fs w1 (hes.below hb1) (hfs.below hb1)).mono ?_
   rintro e w2 ⟨rfl, q2⟩
   have hb2 := hb1.trans (q2.mono (by have := b1.size; omega))
   generalize hr : decide (es = fs) = r
   have HR2 := Lib.hid hr
   clear hr
   cases r
   · go_wp2
     go_ret
     exact ⟨ret_bool (by rw [sameG_yes HR.out]; exact HR2.out.symm), hb2⟩
   · go_wp2
     go_ret
     exact ⟨ret_bool (by rw [sameG_yes HR.out]; exact HR2.out.symm), hb2⟩
end Go.Proofs.YtgfcbmflnldicaaDoor
namespace Go.Proofs.YtgfcbmflnldicaaDoor
open Go.RowKit
theorem OwnE.rd {w : World} {B : Nat} {es : List (Int × Int)} {a : Option Addr} {n c : Nat} (h : OwnE w B (.slice a n c) es) : RdE w a es := by
 obtain ⟨a', c', e, hr, _⟩ := h.form
 injection e with e1 e2 e3
 subst e1; exact hr
section
variable {w : World} {B : Nat} {v : Value} {es : List (Int × Int)}
theorem OwnE.lt (h : OwnE w B v es) : In v B w.heap.size := h.2.lt
end
theorem RdE.kp {w w' : World} {a : Option Addr} {es : List (Int × Int)} (h : RdE w a es) (k : Kp w w' 0 w.heap.size) : RdE w' a es :=
 ⟨h.1, fun h0 => by
  obtain ⟨b, off, rfl, hb, hc⟩ := h.at_ h0
  exact ⟨b, off, rfl, fun i hi => ⟨(cell_block (k.2 b (Nat.zero_le _) hb) _).trans (hc i hi).1, (cell_block (k.2 b (Nat.zero_le _) hb) _).trans (hc i hi).2⟩⟩⟩
def OwnEH (w : World) (B hi : Nat) (v : Value) (es : List (Int × Int)) : Prop := OwnE w B v es ∧ In v B hi
def OwnG2 (w : World) (B : Nat) (v u : Value) (xs : List Int) (es : List (Int × Int)) : Prop := Own w B v xs ∧ OwnE w B u es
def OwnGH (w : World) (B hi : Nat) (v u : Value) (xs : List Int) (es : List (Int × Int)) : Prop := OwnH w B hi v xs ∧ OwnEH w B hi u es
section
variable {w w' : World} {B B' hi : Nat} {v u : Value} {xs : List Int} {es fs : List (Int × Int)}
theorem OwnE.toH (h : OwnE w B v es) : OwnEH w B w.heap.size v es := ⟨h, h.lt⟩
theorem OwnEH.kp (h : OwnEH w B hi v es) (k : Kp w w' B hi) : OwnEH w' B hi v es := ⟨⟨h.1.1, ownsRow_kp h.1.2 h.2 k⟩, h.2⟩
theorem OwnEH.rd {a : Option Addr} {n c : Nat} (h : OwnEH w B hi (.slice a n c) es) : RdE w a es := h.1.rd
theorem OwnEH.rds {a : Option Addr} {n c : Nat} (h : OwnEH w B hi (.slice a n c) es) : RdE w a es := h.1.rd
theorem OwnG.two (h : OwnG w B v u xs es) : OwnG2 w B v u xs es := by
 obtain ⟨M, h1, h2, _, h4⟩ := h
 exact ⟨h2, h4.mono h1⟩
theorem OwnG2.form (h : OwnG2 w B v u xs es) : ∃ a c ra rc, v = .slice a xs.length c ∧ u = .slice ra es.length rc ∧ Rd w a xs ∧ RdE w ra es := by
 obtain ⟨h2, h4⟩ := h
 obtain ⟨a, c, e, r, _⟩ := h2.form
 obtain ⟨ra, rc, e', r', _⟩ := h4.form
 exact ⟨a, c, ra, rc, e, e', r, r'⟩
theorem OwnG2.toH (h : OwnG2 w B v u xs es) (_ : B ≤ w.heap.size) : OwnGH w B w.heap.size v u xs es := ⟨h.1.toH, h.2.toH⟩
theorem OwnGH.kp (h : OwnGH w B hi v u xs es) (k : Kp w w' B hi) : OwnGH w' B hi v u xs es := ⟨h.1.kp k, h.2.kp k⟩
theorem OwnGH.rd {a : Option Addr} {n c : Nat} (h : OwnGH w B hi (.slice a n c) u xs es) : Rd w a xs := h.1.rd
theorem OwnGH.rds {a : Option Addr} {n c : Nat} (h : OwnGH w B hi v (.slice a n c) xs es) : RdE w a es := h.2.rd
theorem OwnGH.len (h : OwnGH w B hi v u xs es) : xs.length ≤ 1073741824 := h.1.1.1
end
end Go.Proofs.YtgfcbmflnldicaaDoor
