/-
  Texts joined.
-/
import Derived.Test.YtgmgpcaahanmiaaY14
import Derived.Test.YtgmgpcaahanmiaaY17
import Derived.Test.YtgmgpcaahanmiaaY19
import Derived.Test.YtgmgpcaahanmiaaY21
import Derived.Test.YtgmgpcaahanmiaaY31
import Derived.Test.YtgmgpcaahanmiaaY33
set_option linter.unusedVariables false
set_option linter.unusedSimpArgs false
set_option maxRecDepth 100000
set_option maxHeartbeats 40000000
namespace Go.Proofs.Ytgmgpcaahanmiaa
open Go.RowKit
attribute [local go_sem ↓] Go.wp_at_zero Go.wp_at_succ
def nearI (wds : List (List Int)) (v : List Int) (n : Nat) : Nat → Nat
 | 0 => 0
 | k + 1 => if apartTo (nthL wds k) v n < apartTo (nthL wds (nearI wds v n k)) v n then k else nearI wds v n k
theorem nearI_lt (wds : List (List Int)) (v : List Int) (n : Nat) {k : Nat} (hk : 1 ≤ k) : nearI wds v n k < k := by
 induction k with
 | zero => omega
 | succ k ih =>
  rw [nearI]
  split
  · omega
  · rcases Nat.eq_zero_or_pos k with h | h
    · subst h; rw [nearI]; omega
    · have := ih h; omega
theorem nearI_one (wds : List (List Int)) (v : List Int) (n : Nat) : nearI wds v n 1 = 0 := by rw [nearI]; simp [nearI]
def nearV (F : FD) (n : Nat) (m : List (List Int)) (v : List Int) : List Int × Int × Int :=
 (nthL (wordsTo F n m m.length) (nearI (wordsTo F n m m.length) v n (wordsTo F n m m.length).length), (apartTo (nthL (wordsTo F n m m.length) (nearI (wordsTo F n m m.length) v n (wordsTo F n m m.length).length)) v n : Int), 0)
noncomputable def nearRes (p d : Int) (xs : List Int) (m : List (List Int)) (v : List Int) : List Int × Int × Int :=
 if okV p d xs m v = true then (if v.length = (nthL m 0).length then nearV (fdR p d xs) (nthL m 0).length m v else ([], 0, 6)) else ([], 0, 1)
def ResLii (w : World) (r : List Int × Int × Int) (e : Ending) (w' : World) : Prop := ∃ v, e = .returned (.tuple #[v, .int .i64 r.2.1, .int .i64 r.2.2]) ∧ Own w' w.heap.size v r.1 ∧ Below w.heap.size w w'
theorem GC.words_pos {F : FD} {n : Nat} {m : List (List Int)} (h : GC F n m) : 1 ≤ (wordsTo F n m m.length).length ∧ (wordsTo F n m m.length).length ≤ 4096 := by
 have n2 := h.good.ok.n_bd
 rw [wordsTo_len]
 exact ⟨Nat.pow_pos (by omega), h.cap_eq.2⟩
theorem implNW_any (p d : Int) (a : Option Addr) (c : Nat) (xs : List Int) (ra : Option Addr) (rc : Nat) (m : List (List Int)) (b : Option Addr) (cb : Nat) (v : List Int) (w : World) (hx : Rd w a xs) (hm : RdS w ra m) (hy : Rd w b v) (ed : I64 d) : Calls Try.prog 50 #[.agg #[.int .i64 p, .int .i64 d, .slice a xs.length c, .slice ra m.length rc], .slice b v.length cb] w (ResLii w (nearRes p d xs m v)) := by
 have hml := hm.len
 have hvl0 := hy.len
 generalize hR : nearRes p d xs m v = r
 obtain ⟨W0, hHW⟩ : ∃ z, z = w.alloc (.cells #[.int .i64 p, .int .i64 d, .slice a xs.length c, .slice ra m.length rc] 37) := ⟨_, rfl⟩
 have b0 : Below w.heap.size w W0 := by rw [hHW]; exact (Below.refl _ _).alloc (Nat.le_refl _) _
 have k0 : Blk W0 w.heap.size 37 #[.int .i64 p, .int .i64 d, .slice a xs.length c, .slice ra m.length rc] := by rw [hHW]; exact Blk.new _ _ _ rfl
 have sk0 : w.heap.size < W0.heap.size := k0.lt
 have HW := Lib.hid hHW
 clear hHW
 have hV := isVector_any p d a c xs ra rc m b cb v W0 (hx.below b0) (hm.below b0) (hy.below b0) ed
 cases hk : okV p d xs m v with
 | false =>
  have HN := Lib.hid (show r = ([], 0, 1) by rw [← hR, nearRes, hk]; rfl)
  rw [hk] at hV
  have HV := hide hV
  clear hV hk hR
  have f0 := k0.cell 0
  have f1 := k0.cell 1
  have f2 := k0.cell 2
  have f3 := k0.cell 3
  go_enter Try.func50, Try.ntmps50
  go_upto_region 1 with fail
  rw [← HW.out]
  go_wp2_with fail
  refine (unhide HV).mono ?_
  rintro e w1 ⟨rfl, b1⟩
  have k1 := k0.below b1 k0.lt
  clear f0 f1 f2 f3
  have f0 := k1.cell 0
  have f1 := k1.cell 1
  have f2 := k1.cell 2
  have f3 := k1.cell 3
  have bb1 := b0.trans (b1.mono (Nat.le_of_lt sk0))
  go_wp2
  go_ret3
  rw [HN.out]
  exact ⟨_, rfl, Own.nil _ _, bb1⟩
 | true =>
  rw [hk] at hV
  have HV := hide hV
  have hk0 := hk
  rw [okV, Bool.and_eq_true] at hk
  obtain ⟨F, n, rfl, rfl, rfl, hC⟩ := okC_gc hk.1
  have he := hk.2
  rw [fdR_eq] at he
  have ok := hC.good.ok
  obtain ⟨n2, n64⟩ := ok.n_bd
  have hRR : r = if v.length = n then nearV F n m v else ([], 0, 6) := by rw [← hR, nearRes, hk0, fdR_eq, hC.hn]; rfl
  have hEl := elems_iff he
  have hLE := fun W (h : Below W0.heap.size W0 W) => lengthOf_any F.p F.k a F.poly.length c ra rc m W ((hm.below b0).below h) hC.m1
  rw [hC.hn] at hLE
  have HLE := hide hLE
  clear hV hk hk0 he hR hLE
  have hm1 := hC.m1
  have hm0 : 0 < m.length := by omega
  have hm8 := hC.m8
  have hn1 := hC.n1
  have hn32 := hC.n32
  have BX := hide (show ∀ W, Below W0.heap.size W0 W → (Below W0.heap.size W0 W ∧ W.cell? ⟨w.heap.size, 0, none⟩ = some (.int .i64 F.p) ∧ W.cell? ⟨w.heap.size, 1, none⟩ = some (.int .i64 F.k) ∧ W.cell? ⟨w.heap.size, 2, none⟩ = some (.slice a F.poly.length c) ∧ W.cell? ⟨w.heap.size, 3, none⟩ = some (.slice ra m.length rc)) from fun W h => ⟨h, (k0.below h k0.lt).cell 0, (k0.below h k0.lt).cell 1, (k0.below h k0.lt).cell 2, (k0.below h k0.lt).cell 3⟩)
  have KB := hide (show ∀ W, Below W0.heap.size W0 W → Blk W w.heap.size 37 #[.int .i64 F.p, .int .i64 F.k, .slice a F.poly.length c, .slice ra m.length rc] from fun W h => k0.below h k0.lt)
  by_cases hle : v.length = n
  ·
   rw [if_pos hle] at hRR
   have HRR := Lib.hid hRR
   have hbq : ((v.length : Int) != (n : Int)) = false := by rw [hle]; simp
   clear hRR
   have hW := fun W (h : Below W0.heap.size W0 W) => wordsOf_any F a c ra rc m n W ((hx.below b0).below h) ((hm.below b0).below h) hC
   obtain ⟨hw1, hw2⟩ := hC.words_pos
   have hel := fun k hk => wordsTo_el ok n m (k := k) hk
   have hnv : nearV F n m v = (nthL (wordsTo F n m m.length) (nearI (wordsTo F n m m.length) v n (wordsTo F n m m.length).length), (apartTo (nthL (wordsTo F n m m.length) (nearI (wordsTo F n m m.length) v n (wordsTo F n m m.length).length)) v n : Int), 0) := rfl
   obtain ⟨wds, hwds⟩ : ∃ wds, wds = wordsTo F n m m.length := ⟨_, rfl⟩
   rw [← hwds] at hW hel hw1 hw2 hnv
   have hAP : ∀ (k : Nat) (_ : k < wds.length) ak ck W (_ : Below W0.heap.size W0 W) (_ : Rd W ak (nthL wds k)), Calls Try.prog 115 #[.slice ak n ck, .slice b v.length cb] W fun e w' => e = .returned (.int .i64 (apartTo (nthL wds k) v n : Nat)) ∧ Below W.heap.size W w' := fun k hk ak ck W h hr => by
    have hl := (hel k hk).1
    have h2 := distanceBetween_any ak b ck cb (nthL wds k) v W hr ((hy.below b0).below h) (by rw [hl, hle])
    rw [hl] at h2
    exact h2
   have HWW := hide hW
   have HAP := hide hAP
   have HEL := hide hel
   have HNV := Lib.hid hnv
   clear hW hAP hel hnv hwds hEl
   have HLN := Lib.hid hle
   clear hle hC
   have f0 := k0.cell 0
   have f1 := k0.cell 1
   have f2 := k0.cell 2
   have f3 := k0.cell 3
   go_enter Try.func50, Try.ntmps50
   go_upto_region 1 with fail
   rw [← HW.out]
   go_wp2_with fail
   refine (unhide HV).mono ?_
   rintro e w1 ⟨rfl, b1⟩
   have k1 := k0.below b1 k0.lt
   clear f0 f1 f2 f3
   have f0 := k1.cell 0
   have f1 := k1.cell 1
   have f2 := k1.cell 2
   have f3 := k1.cell 3
   have bb1 := b0.trans (b1.mono (Nat.le_of_lt sk0))
   go_upto_region 3 with fail
   go_region_held3 (fun W => Below W0.heap.size W0 W ∧ W.cell? ⟨w.heap.size, 0, none⟩ = some (.int .i64 F.p) ∧ W.cell? ⟨w.heap.size, 1, none⟩ = some (.int .i64 F.k) ∧ W.cell? ⟨w.heap.size, 2, none⟩ = some (.slice a F.poly.length c) ∧ W.cell? ⟨w.heap.size, 3, none⟩ = some (.slice ra m.length rc))
    (first | exact (unhide BX) _ b1.drew | exact (unhide BX) _ (by assumption))
    (first
     | (go_at_call 108; refine (unhide HLE _ ?_).mono ?_; exact And.left (by assumption); rintro e w2 ⟨rfl, b2⟩; have hB2 := Below.chain (a := W0) (And.left (by assumption)) b2)
     | (go_at_call 112; refine (size_any _ _ _ _).mono ?_; rintro e w3 ⟨rfl, rfl⟩))
   have k2 := unhide KB _ hB2
   clear f0 f1 f2 f3
   have f0 := k2.cell 0
   have f1 := k2.cell 1
   have f2 := k2.cell 2
   have f3 := k2.cell 3
   have bb2 := b0.trans (hB2.mono (Nat.le_of_lt sk0))
   go_wp2_with fail
   refine (unhide HWW _ hB2).mono ?_
   rintro e w3 ⟨u, rfl, o3, b3⟩
   obtain ⟨ax, cx, rfl, r3⟩ := o3.form
   obtain ⟨gw, ow, rfl, hgw, hcw⟩ := r3.at_ (by omega)
   have c3 := Below.chain hB2 b3
   have bb3 := b0.trans (c3.mono (Nat.le_of_lt sk0))
   have hcw2 : ∀ k, k < wds.length → ∃ ak ck, w3.cell? ⟨gw, ow + k, none⟩ = some (.slice ak n ck) ∧ Rd w3 ak (nthL wds k) := fun k hk => by
    obtain ⟨ak, ck, h1, h2⟩ := hcw k hk
    rw [(unhide HEL k hk).1] at h1
    exact ⟨ak, ck, h1, h2⟩
   have HCW := hide hcw2
   have O3 := hide o3
   have hz3 := bb2.size
   clear o3 r3 hcw hcw2 f0 f1 f2 f3
   go_wp2_with fail
   go_loopw [7, 8, 24] (fun bv lv iv wr => ∃ (k : Nat) (aj : Option Addr) (cj nj : Nat) (l : Int), iv = .int .i64 k ∧ bv = .slice aj nj cj ∧ lv = .int .i64 l ∧ k ≤ wds.length ∧ Hid ((k = 0 ∧ l = -1) ∨ (1 ≤ k ∧ nj = n ∧ w3.cell? ⟨gw, ow + nearI wds v n k, none⟩ = some (.slice aj n cj) ∧ l = (apartTo (nthL wds (nearI wds v n k)) v n : Nat))) ∧ Below w3.heap.size w3 wr) (fun _ _ iv _ => wds.length - (intOf iv).toNat)
   case atStart => exact ⟨0, none, 0, 0, -1, rfl, rfl, rfl, Nat.zero_le _, .inl ⟨rfl, rfl⟩, Below.refl _ _⟩
   case round =>
    obtain ⟨k, aj, cj, nj, l, rfl, rfl, rfl, hk, hSt, hb⟩ := hrel
    have hsz := hb.size
    by_cases hkl : k < wds.length
    · obtain ⟨ak, ck, hk2, hkr⟩ := unhide HCW k hkl
      have hA := unhide HAP k hkl ak ck wr (Below.chain c3 hb) (hkr.below hb)
      have hst : nearI wds v n (k + 1) = if apartTo (nthL wds k) v n < apartTo (nthL wds (nearI wds v n k)) v n then k else nearI wds v n k := rfl
      obtain ⟨D1, hD1⟩ : ∃ D1, D1 = apartTo (nthL wds k) v n := ⟨_, rfl⟩
      rw [← hD1] at hA hst
      have HA := hide hA
      have hkc := (hb.cell (p := ⟨gw, ow + k, none⟩) hgw).trans hk2
      have HK2 := hide hk2
      have HD1 := Lib.hid hD1
      clear hA hD1 hkr hk2
      by_cases hl : l < 0
      · have h1 : nearI wds v n (k + 1) = k := by
          rcases hSt.out with ⟨h, _⟩ | ⟨h, _, _, e⟩
          · subst h; exact nearI_one wds v n
          · omega
        have H1 := Lib.hid h1
        clear h1 hst hSt
        go_wp2_with fail
        refine (unhide HA).mono ?_
        rintro e w4 ⟨rfl, b4⟩
        have hb4 := hb.trans (b4.mono hsz)
        go_wp2
        go_roundw
        case rel => exact ⟨k + 1, ak, ck, n, D1, by go_num, rfl, rfl, by omega, .inr ⟨by omega, rfl, by rw [H1.out]; exact unhide HK2, by rw [H1.out, HD1.out]⟩, hb4⟩
        case measure => simp only [intOf]; omega
      · have hst2 : 1 ≤ k ∧ nj = n ∧ w3.cell? ⟨gw, ow + nearI wds v n k, none⟩ = some (.slice aj n cj) ∧ l = (apartTo (nthL wds (nearI wds v n k)) v n : Nat) := by
          rcases hSt.out with ⟨_, h⟩ | h
          · omega
          · exact h
        obtain ⟨D2, hD2⟩ : ∃ D2, D2 = apartTo (nthL wds (nearI wds v n k)) v n := ⟨_, rfl⟩
        rw [← hD2] at hst hst2
        obtain ⟨hk1, rfl, hjc, rfl⟩ := hst2
        have HJC := hide hjc
        have HD2 := Lib.hid hD2
        have hl0 : decide ((D2 : Int) < 0) = false := by rw [decide_eq_false_iff_not]; omega
        clear hjc hD2 hSt
        by_cases hlt : D1 < D2
        · rw [if_pos hlt] at hst
          have hlb : decide ((D1 : Int) < (D2 : Int)) = true := by rw [decide_eq_true_eq]; omega
          have hlc : decide (D1 < D2) = true := by rw [decide_eq_true_eq]; omega
          have HST := Lib.hid hst
          clear hst
          go_wp2_with fail
          refine (unhide HA).mono ?_
          rintro e w4 ⟨rfl, b4⟩
          have hb4 := hb.trans (b4.mono hsz)
          go_wp2
          go_roundw
          case rel => exact ⟨k + 1, ak, ck, nj, D1, by go_num, rfl, rfl, by omega, .inr ⟨by omega, rfl, by rw [HST.out]; exact unhide HK2, by rw [HST.out, HD1.out]⟩, hb4⟩
          case measure => simp only [intOf]; omega
        · rw [if_neg hlt] at hst
          have hlb : decide ((D1 : Int) < (D2 : Int)) = false := by rw [decide_eq_false_iff_not]; omega
          have hlc : decide (D1 < D2) = false := by rw [decide_eq_false_iff_not]; omega
          have HST := Lib.hid hst
          clear hst
          go_wp2_with fail
          refine (unhide HA).mono ?_
          rintro e w4 ⟨rfl, b4⟩
          have hb4 := hb.trans (b4.mono hsz)
          go_wp2
          go_roundw
          case rel => exact ⟨k + 1, aj, cj, nj, D2, by go_num, rfl, rfl, by omega, .inr ⟨by omega, rfl, by rw [HST.out]; exact unhide HJC, by rw [HST.out, HD2.out]⟩, hb4⟩
          case measure => simp only [intOf]; omega
    · have hke : k = wds.length := by omega
      have hst2 : nj = n ∧ w3.cell? ⟨gw, ow + nearI wds v n k, none⟩ = some (.slice aj n cj) ∧ l = (apartTo (nthL wds (nearI wds v n k)) v n : Nat) := by
       rcases hSt.out with ⟨h, _⟩ | h
       · omega
       · exact h.2
      have hjk := nearI_lt wds v n (k := k) (by omega)
      have hnv := HNV.out
      rw [← hke] at hnv
      obtain ⟨j, hj⟩ : ∃ j, j = nearI wds v n k := ⟨_, rfl⟩
      rw [← hj] at hst2 hjk hnv
      have hjl : j < wds.length := by omega
      obtain ⟨rfl, hj1, rfl⟩ := hst2
      obtain ⟨ar, cr, orow, hrow, _⟩ := (unhide O3).row hjl
      have hrow := hrow _ _ _ _ rfl
      rw [hj1] at hrow
      injection hrow with hrow
      injection hrow with e1 e2 e3
      rw [← e1, ← e2, ← e3] at orow
      have OR := hide orow
      have HV := Lib.hid hnv
      clear hnv hke hj orow e1 e2 e3 hSt hj1
      go_wp2
      go_ret3
      rw [HRR.out, HV.out]
      exact ⟨_, rfl, ((unhide OR).below hb (Nat.le_refl _)).mono hz3, bb3.trans (hb.mono bb3.size)⟩
  ·
   rw [if_neg hle] at hRR
   have HN := Lib.hid hRR
   have hbq : ((v.length : Int) != (n : Int)) = true := by rw [bne_iff_ne]; omega
   clear hRR hle hEl hC
   have f0 := k0.cell 0
   have f1 := k0.cell 1
   have f2 := k0.cell 2
   have f3 := k0.cell 3
   go_enter Try.func50, Try.ntmps50
   go_upto_region 1 with fail
   rw [← HW.out]
   go_wp2_with fail
   refine (unhide HV).mono ?_
   rintro e w1 ⟨rfl, b1⟩
   have k1 := k0.below b1 k0.lt
   clear f0 f1 f2 f3
   have f0 := k1.cell 0
   have f1 := k1.cell 1
   have f2 := k1.cell 2
   have f3 := k1.cell 3
   have bb1 := b0.trans (b1.mono (Nat.le_of_lt sk0))
   go_upto_region 3 with fail
   go_region_held3 (fun W => Below W0.heap.size W0 W ∧ W.cell? ⟨w.heap.size, 0, none⟩ = some (.int .i64 F.p) ∧ W.cell? ⟨w.heap.size, 1, none⟩ = some (.int .i64 F.k) ∧ W.cell? ⟨w.heap.size, 2, none⟩ = some (.slice a F.poly.length c) ∧ W.cell? ⟨w.heap.size, 3, none⟩ = some (.slice ra m.length rc))
    (first | exact (unhide BX) _ b1.drew | exact (unhide BX) _ (by assumption))
    (first
     | (go_at_call 108; refine (unhide HLE _ ?_).mono ?_; exact And.left (by assumption); rintro e w2 ⟨rfl, b2⟩; have hB2 := Below.chain (a := W0) (And.left (by assumption)) b2)
     | (go_at_call 112; refine (size_any _ _ _ _).mono ?_; rintro e w3 ⟨rfl, rfl⟩))
   have k2 := unhide KB _ hB2
   clear f0 f1 f2 f3
   have f0 := k2.cell 0
   have f1 := k2.cell 1
   have f2 := k2.cell 2
   have f3 := k2.cell 3
   have bb2 := b0.trans (hB2.mono (Nat.le_of_lt sk0))
   go_wp2
   go_ret3
   rw [HN.out]
   exact ⟨_, rfl, Own.nil _ _, bb2⟩
end Go.Proofs.Ytgmgpcaahanmiaa
namespace Go.Proofs.Ytgmgpcaahanmiaa
open Go.RowKit
attribute [local go_sem ↓] Go.wp_at_zero Go.wp_at_succ
def Near (F : FD) (K N : Nat) (w : List Int) (m : List Int) : Prop := m.length = K ∧ (∀ c ∈ m, 0 ≤ c ∧ c < F.n) ∧ 2 * apartTo (vals F m N) w N ≤ N - K
open Classical in
noncomputable def dec (F : FD) (K N : Nat) (w : List Int) : List Int × Int := if h : ∃ m, Near F K N w m then (Classical.choose h, 0) else ([], 3)
theorem dec_yes {F : FD} (hG : F.Good) {K N : Nat} (hN : N ≤ F.n) (hKN : K ≤ N) {w m : List Int} (h : Near F K N w m) : dec F K N w = (m, 0) := by
 have ex : ∃ m, Near F K N w m := ⟨m, h⟩
 rw [dec, dif_pos ex]
 have hc := Classical.choose_spec ex
 have ok := hG.ok
 have e := vals_unique hG hN hKN hc.1 h.1 (fun c hc' => (el_n ok).2 (hc.2.1 c hc')) (fun c hc' => (el_n ok).2 (h.2.1 c hc')) hc.2.2 h.2.2
 rw [e]
theorem dec_no {F : FD} {K N : Nat} {w : List Int} (h : ∀ m, ¬ Near F K N w m) : dec F K N w = ([], 3) := by
 rw [dec, dif_neg]
 rintro ⟨m, hm⟩
 exact h m hm
theorem dig_mem {F : FD} (ok : F.Ok) (i K : Nat) : (dig i F.n K).length = K ∧ ∀ c ∈ dig i F.n K, 0 ≤ c ∧ c < F.n := ⟨dig_len _ _ _, dig_range (by have := ok.n_bd; omega) K⟩
theorem all_dig {F : FD} (ok : F.Ok) {K : Nat} {m : List Int} (hl : m.length = K) (he : ∀ c ∈ m, 0 ≤ c ∧ c < F.n) : ∃ i : Nat, (i : Int) < (F.n : Int) ^ K ∧ dig i F.n K = m := by
 have hn : (0 : Int) < F.n := by have := ok.n_bd; omega
 have h := num_bound hn he
 rw [hl] at h
 refine ⟨(num F.n m).toNat, by omega, ?_⟩
 rw [show (((num F.n m).toNat : Nat) : Int) = num F.n m by omega]
 exact dig_num hn he hl
noncomputable def dpRes (q k : Int) (w : List Int) : List Int × Int :=
 if rsCode q k w.length = 0 then (if elems q w = true then dec (fdOf q) k.toNat w.length w else ([], 1)) else ([], rsCode q k w.length)
theorem rs_nq {q k n : Int} (h : rsCode q k n = 0) : n ≤ q := by
 unfold rsCode at h
 by_cases hl : lenOk q n = true
 · rw [lenOk, Bool.and_eq_true, inB_true] at hl
   omega
 · rw [if_neg hl] at h; omega
theorem half_iff {a N K : Nat} (h : K ≤ N) : (a : Int) ≤ ((N : Int) - (K : Int)) / 2 ↔ 2 * a ≤ N - K := by omega
theorem cap_exact {b l : Int} : ∀ {k : Nat}, capTo b l k ≤ l → capTo b l k = b ^ k
 | 0, _ => by simp [capTo]
 | k + 1, hk => by
  by_cases hc : capTo b l k ≤ l
  · rw [capTo_go hc, cap_exact hc, Int.pow_succ]
  · rw [capTo_stop hc (k + 1) (by omega)] at hk; exact absurd hk hc
theorem implDP_any (q k : Int) (b : Option Addr) (cb : Nat) (wd : List Int) (w : World) (hx : Rd w b wd) (e0 : I64 k) : Calls Try.prog 30 #[.int .i64 q, .int .i64 k, .slice b wd.length cb] w (ResL w (dpRes q k wd)) := by
 have hxl := hx.len
 have hL := polynomialCode_any q k wd.length w e0
 unfold dpRes
 obtain ⟨c, hc⟩ : ∃ c, rsCode q k wd.length = c := ⟨_, rfl⟩
 rw [hc] at hL ⊢
 by_cases h0 : c = 0
 ·
  subst h0
  obtain ⟨hf, h2, h64, hn1, hn2, hk1, hk2, hkn, hcap⟩ := rsCode_zero hc
  rw [if_pos rfl]
  have hG := fdOf_good hf
  have ok := hG.ok
  have hq := (fdOf_ok hf).2.1
  have hnq := rs_nq hc
  rw [ok.n_eq] at hq
  obtain ⟨K, rfl⟩ := Int.eq_ofNat_of_zero_le (show 0 ≤ k by omega)
  rw [Int.toNat_natCast] at hcap ⊢
  by_cases he : elems q wd = true
  ·
   rw [if_pos he]
   have hE := fun W h => areIn_any q b cb wd W (by omega) h64 h
   rw [he] at hE
   generalize fdOf q = F at hL hG ok hq ⊢
   subst hq
   obtain ⟨n2, n64⟩ := ok.n_bd
   have hC := fun W => powerUpTo_any F.n K 4096 W (by omega) (by omega) (by omega) (by omega) (by omega)
   rw [Int.toNat_natCast] at hC
   obtain ⟨Q, hQ⟩ : ∃ Q, Q = capTo (F.n : Int) 4096 K := ⟨_, rfl⟩
   rw [← hQ] at hC hcap
   have hQ1 : 1 ≤ Q := by rw [hQ]; exact capTo_pos (by omega) K
   have HQ := Lib.hid hQ
   have HE := hide hE
   have HL := hide hL
   have HC := hide hC
   clear hL hE hC hQ hc hf he
   go_enter Try.func30, Try.ntmps30
   go_wp2_with fail
   refine (size_any _ _ _ _).mono ?_
   rintro e w1 ⟨rfl, rfl⟩
   go_wp2_with fail
   refine (unhide HL).mono ?_
   rintro e w1 ⟨v1, rfl, o1, b1⟩
   rw [if_pos rfl, if_pos rfl]
   rw [if_pos rfl] at o1
   obtain ⟨a1, c1, rfl, r1, _⟩ := o1.form
   obtain ⟨W1, hHF⟩ : ∃ z, z = w1.alloc (.cells #[.int .i64 F.p, .int .i64 F.k, .slice a1 F.poly.length c1] 34) := ⟨_, rfl⟩
   have bF : Below w1.heap.size w1 W1 := by rw [hHF]; exact (Below.refl _ _).alloc (Nat.le_refl _) _
   have kF : Blk W1 w1.heap.size 34 #[.int .i64 F.p, .int .i64 F.k, .slice a1 F.poly.length c1] := by rw [hHF]; exact Blk.new _ _ _ rfl
   have skF : w1.heap.size < W1.heap.size := kF.lt
   have HF := Lib.hid hHF
   clear hHF
   have hR1 := r1.below bF
   have hb1 := Below.chain b1 bF
   have hx1 := hx.below hb1
   clear r1 o1 b1 bF
   go_upto_region 3 with fail
   rw [← HF.out]
   go_wp2_with fail
   refine (unhide HE _ hx1).mono ?_
   rintro e w2 ⟨rfl, b2⟩
   have hb2 := Below.chain hb1 b2
   have hx2 := hx1.below b2
   have hR2 := hR1.below b2
   have kF2 := kF.below b2 kF.lt
   clear hx1 hR1 kF b2 hb1
   go_wp2_with fail
   refine (unhide HC _).mono ?_
   rintro e w3 ⟨rfl, rfl⟩
   have z1 := hb2.size
   go_wp2_with fail
   go_loopw [32] (fun iv wr => ∃ i : Nat, iv = .int .i64 i ∧ (i : Int) ≤ Q ∧ Hid (∀ j : Nat, j < i → ¬ Near F K wd.length wd (dig j F.n K)) ∧ Below w2.heap.size w2 wr) (fun iv _ => (Q - intOf iv).toNat)
   case atStart => exact ⟨0, rfl, by omega, fun j hj => by omega, Below.refl _ _⟩
   case round =>
    obtain ⟨i, rfl, hi, hno, hb⟩ := hrel
    have hsz := hb.size
    by_cases hlt : (i : Int) < Q
    ·
     go_wp2_with fail
     refine (digitsOf_any i F.n K _ (by omega) (by omega) (by omega) (by omega) (by omega)).mono ?_
     rintro e w4 ⟨v4, rfl, o4, b4⟩
     obtain ⟨a4, c4, rfl, r4, _⟩ := o4.form
     obtain ⟨hml, hme⟩ := dig_mem (F := F) ok i K
     have hmem : (dig i F.n K).length = K ∧ ∀ c ∈ dig i F.n K, 0 ≤ c ∧ c < F.n := ⟨hml, hme⟩
     obtain ⟨msg, hmsg⟩ : ∃ msg, msg = dig i F.n K := ⟨_, rfl⟩
     rw [← hmsg] at hmem o4 r4 ⊢
     have HMSG := Lib.hid hmsg
     have hb4 := hb.trans (b4.mono hsz)
     have s4 := b4.size
     have hV := polynomialWord_any F a1 c1 a4 c4 msg wd.length w4 (hR2.below hb4) ok r4 (by omega) (by rw [hmem.1]; omega) (fun c hc => by have := hmem.2 c hc; omega)
     have kF4 := kF2.below hb4 kF2.lt
     have e0 := kF4.cell 0
     have e1 := kF4.cell 1
     have e2 := kF4.cell 2
     have HV := hide hV
     have HMEM := hide hmem
     have HML := Lib.hid hmem.1
     clear hV hmem hmsg hml hme
     go_wp2_with fail
     refine (unhide HV).mono ?_
     rintro e w5 ⟨v5, rfl, o5, b5⟩
     clear e0 e1 e2
     obtain ⟨a5, c5, rfl, r5, _⟩ := o5.form
     have hb5 := hb4.trans (b5.mono (by omega))
     have s5 := b5.size
     have hA := distanceBetween_any a5 b c5 cb (vals F msg wd.length) wd w5 r5 (hx2.below hb5) (vals_len _ _ _)
     rw [vals_len] at hA
     obtain ⟨d, hd⟩ : ∃ d, d = apartTo (vals F msg wd.length) wd wd.length := ⟨_, rfl⟩
     rw [← hd] at hA
     have hdl : d ≤ wd.length := by rw [hd]; exact apartTo_le _ _ _
     have HA := hide hA
     have HD := Lib.hid hd
     have HVL := Lib.hid (vals_len F msg wd.length)
     have o4' := o4.below b5 (Nat.le_refl _)
     clear hA hd
     go_wp2_with fail
     rw [HVL.out]
     refine (unhide HA).mono ?_
     rintro e w6 ⟨rfl, b6⟩
     have hb6 := hb5.trans (b6.mono (by omega))
     have o4z := o4'.below b6 (Nat.le_refl _)
     by_cases hnr : (d : Int) ≤ ((wd.length : Int) - (K : Int)) / 2
     ·
      have hnear : Near F K wd.length wd msg := ⟨(unhide HMEM).1, (unhide HMEM).2, by rw [← HD.out]; exact (half_iff (by omega)).1 hnr⟩
      have HR := Lib.hid (dec_yes hG (by omega) (by omega) hnear)
      go_wp2_with fail
      go_ret2
      show ResL w (dec F K wd.length wd) _ _
      rw [HR.out]
      exact ⟨_, rfl, o4z.mono (by omega), hb2.trans (hb6.mono z1)⟩
     ·
      have hfar : ¬ Near F K wd.length wd msg := fun h => hnr ((half_iff (by omega)).2 (by rw [HD.out]; exact h.2.2))
      have HFAR := hide hfar
      clear hfar
      go_wp2_with fail
      go_roundw
      case rel =>
       refine ⟨i + 1, by go_num, by omega, fun j hj => ?_, hb6⟩
       rcases Nat.lt_succ_iff_lt_or_eq.1 hj with h | rfl
       · exact hno.out j h
       · rw [← HMSG.out]; exact unhide HFAR
      case measure => simp only [intOf]; omega
    ·
     have hall : ∀ m, ¬ Near F K wd.length wd m := fun m hm => by
      obtain ⟨j, hj, e⟩ := all_dig (K := K) ok hm.1 hm.2.1
      have hcq : Q = (F.n : Int) ^ K := by
       rw [HQ.out]
       have := cap_exact (b := (F.n : Int)) (l := 4096) (k := K) (by rw [← HQ.out]; omega)
       exact this
      rw [← hcq] at hj
      have h := hno.out j (by omega)
      rw [e] at h
      exact h hm
     have HR := Lib.hid (dec_no hall)
     clear hall
     go_wp2_with fail
     go_ret2
     show ResL w (dec F K wd.length wd) _ _
     rw [HR.out]
     exact ⟨_, rfl, Own.nil _ _, hb2.trans (hb.mono z1)⟩
  ·
   have he' : elems q wd = false := by simpa using he
   rw [if_neg he]
   have hE := fun W h => areIn_any q b cb wd W (by omega) h64 h
   rw [he'] at hE
   generalize fdOf q = F at hL hG ok hq ⊢
   have HE := hide hE
   have HL := hide hL
   clear hE hL he he' hc hf hq
   go_enter Try.func30, Try.ntmps30
   go_wp2_with fail
   refine (size_any _ _ _ _).mono ?_
   rintro e w1 ⟨rfl, rfl⟩
   go_wp2_with fail
   refine (unhide HL).mono ?_
   rintro e w1 ⟨v1, rfl, o1, b1⟩
   rw [if_pos rfl, if_pos rfl]
   rw [if_pos rfl] at o1
   obtain ⟨a1, c1, rfl, r1, _⟩ := o1.form
   obtain ⟨W1, hHF⟩ : ∃ z, z = w1.alloc (.cells #[.int .i64 F.p, .int .i64 F.k, .slice a1 F.poly.length c1] 34) := ⟨_, rfl⟩
   have bF : Below w1.heap.size w1 W1 := by rw [hHF]; exact (Below.refl _ _).alloc (Nat.le_refl _) _
   have kF : Blk W1 w1.heap.size 34 #[.int .i64 F.p, .int .i64 F.k, .slice a1 F.poly.length c1] := by rw [hHF]; exact Blk.new _ _ _ rfl
   have skF : w1.heap.size < W1.heap.size := kF.lt
   have HF := Lib.hid hHF
   clear hHF
   have hb1 := Below.chain b1 bF
   have hx1 := hx.below hb1
   go_upto_region 3 with fail
   rw [← HF.out]
   go_wp2_with fail
   refine (unhide HE _ hx1).mono ?_
   rintro e w2 ⟨rfl, b2⟩
   go_wp2
   go_ret2
   exact ⟨_, rfl, Own.nil _ _, Below.chain hb1 b2⟩
 ·
  rw [if_neg h0]
  have hcn : (c != 0) = true := by rw [bne_iff_ne]; exact h0
  have h0' := hide h0
  have HL := hide hL
  clear hL h0 hc
  go_enter Try.func30, Try.ntmps30
  go_wp2_with fail
  refine (size_any _ _ _ _).mono ?_
  rintro e w1 ⟨rfl, rfl⟩
  go_wp2_with fail
  refine (unhide HL).mono ?_
  rintro e w1 ⟨v1, rfl, o1, b1⟩
  rw [if_neg (unhide h0'), if_neg (unhide h0')]
  rw [if_neg (unhide h0')] at o1
  obtain ⟨a1, c1, rfl, r1, _⟩ := o1.form
  obtain ⟨W1, hHF⟩ : ∃ z, z = w1.alloc (.cells #[.int .i64 0, .int .i64 0, .slice a1 0 c1] 34) := ⟨_, rfl⟩
  have bF : Below w1.heap.size w1 W1 := by rw [hHF]; exact (Below.refl _ _).alloc (Nat.le_refl _) _
  have kF : Blk W1 w1.heap.size 34 #[.int .i64 0, .int .i64 0, .slice a1 0 c1] := by rw [hHF]; exact Blk.new _ _ _ rfl
  have skF : w1.heap.size < W1.heap.size := kF.lt
  have HF := Lib.hid hHF
  clear hHF
  have hb1 := Below.chain b1 bF
  go_upto_region 3 with fail
  rw [← HF.out]
  go_wp2
  go_ret2
  exact ⟨_, rfl, Own.nil _ _, hb1⟩
end Go.Proofs.Ytgmgpcaahanmiaa
namespace Go.Proofs.Ytgmgpcaahanmiaa
open Go.RowKit
section
variable {F : FD}
theorem valF_add (ok : F.Ok) (x : Int) : ∀ p q : List Int, p.length = q.length → valF F x (List.zipWith F.add p q) = F.add (valF F x p) (valF F x q)
 | [], [], _ => by show (0 : Int) = F.add 0 0; rw [add_zero' ok (zero_el ok)]
 | c :: cs, d :: ds, h => by
  have ih := valF_add ok x cs ds (by simpa using h)
  rw [List.zipWith_cons_cons, valF_cons, ih, valF_cons, valF_cons, add_mul' ok, add4 ok]
 | [], _ :: _, h => by simp at h
 | _ :: _, [], h => by simp at h
theorem valF_scale (ok : F.Ok) (c x : Int) : ∀ p : List Int, valF F x (scale F c p) = F.mul c (valF F x p)
 | [] => by show (0 : Int) = F.mul c 0; rw [mul_zero_all ok]
 | d :: ds => by
  have ih := valF_scale ok c x ds
  show valF F x (F.mul c d :: scale F c ds) = _
  rw [valF_cons, ih, valF_cons, mul_add' ok, mul_assoc_all ok]
theorem valF_zeros (ok : F.Ok) (x : Int) : ∀ k, valF F x (zeros k) = 0
 | 0 => rfl
 | k + 1 => by
  show valF F x (0 :: zeros k) = 0
  rw [valF_cons, valF_zeros ok x k, zero_mul_all ok, add_zero' ok (zero_el ok)]
theorem unit_nth {k i : Nat} (hi : i < k) (l : Nat) : nth (unit k i) l = if l = i then 1 else 0 := by
 rw [unit]
 by_cases e : l = i
 · subst e
   rw [if_pos rfl, nth_set_same (by rw [zeros_len]; exact hi)]
 · rw [if_neg e, nth_set_ne (fun h => e h.symm), zeros_nth]
theorem rsRows_nth (F : FD) (k n : Nat) {t j : Nat} (hj : j < t) : nthL (rsRows F k n t) j = vals F (unit k j) n := by simp [rsRows, nthL, hj]
theorem nth_zip {f : Int → Int → Int} {xs ys : List Int} (hl : xs.length = ys.length) {i : Nat} (hi : i < xs.length) : nth (List.zipWith f xs ys) i = f (nth xs i) (nth ys i) := by
 rw [nth_lt (by rw [List.length_zipWith]; omega), List.getElem_zipWith, nth_lt hi, nth_lt (by omega)]
theorem rs_poly (ok : F.Ok) {k n t : Nat} (ht : t ≤ k) {v : Nat → Int} (hv : Sp F (rsRows F k n t) v) :
    ∃ msg : List Int, msg.length = k ∧ (∀ c ∈ msg, F.el c) ∧ (∀ l, t ≤ l → nth msg l = 0) ∧ ∀ i, i < n → v i = valF F i msg := by
 induction hv with
 | zero => exact ⟨zeros k, zeros_len k, fun c hc => by rw [zeros, List.mem_replicate] at hc; rw [hc.2]; exact zero_el ok, fun l _ => zeros_nth k l, fun i _ => (valF_zeros ok i k).symm⟩
 | @step v j c h hj hc ih =>
  obtain ⟨msg, hl, he, hz, hval⟩ := ih
  rw [rsRows_len] at hj
  have hsl : (scale F c (unit k j)).length = k := by rw [scale_len, unit_len]
  have hzl : (List.zipWith F.add msg (scale F c (unit k j))).length = k := by rw [List.length_zipWith]; omega
  refine ⟨List.zipWith F.add msg (scale F c (unit k j)), hzl, fun x hx => ?_, fun l hlt => ?_, fun i hi => ?_⟩
  · obtain ⟨i, hi, rfl⟩ := List.getElem_of_mem hx
    rw [List.getElem_zipWith]
    exact lin_el ok _ _ _
  · rcases Nat.lt_or_ge l k with hlk | hlk
    · rw [nth_zip (by omega) (by omega), hz l hlt, scale_nth_all ok, unit_nth (by omega), if_neg (by omega), mul_zero_all ok, add_zero' ok (zero_el ok)]
    · exact nth_big (by omega)
  · show F.add (v i) (F.mul c (nth (nthL (rsRows F k n t) j) i)) = _
    rw [valF_add ok i _ _ (by omega), valF_scale ok, ← hval i hi, rsRows_nth F k n hj, vals_nth F _ hi]
def tk (msg : List Int) (k t : Nat) : List Int := (List.range k).map fun l => if l < t then nth msg l else 0
theorem tk_len (msg : List Int) (k t : Nat) : (tk msg k t).length = k := by simp [tk]
theorem tk_nth (msg : List Int) (k t : Nat) {l : Nat} (hl : l < k) : nth (tk msg k t) l = if l < t then nth msg l else 0 := by simp [tk, nth, hl]
theorem rs_sp (ok : F.Ok) {k n : Nat} {msg : List Int} (hl : msg.length = k) (he : ∀ c ∈ msg, F.el c) : Sp F (rsRows F k n k) (nth (vals F msg n)) := by
 have key : ∀ t, t ≤ k → Sp F (rsRows F k n k) (nth (vals F (tk msg k t) n)) := by
  intro t
  induction t with
  | zero =>
   intro _
   have e : nth (vals F (tk msg k 0) n) = fun _ => 0 := by
    funext i
    have e0 : tk msg k 0 = zeros k := eq_of_nth (by rw [tk_len, zeros_len]) fun l hh => by
     rw [tk_len] at hh
     rw [tk_nth msg k 0 hh, if_neg (by omega), zeros_nth]
    rcases Nat.lt_or_ge i n with hi | hi
    · rw [vals_nth F _ hi, e0, valF_zeros ok]
    · exact nth_big (by rw [vals_len]; exact hi)
   rw [e]; exact .zero
  | succ t ih =>
   intro htk
   have hc : F.el (nth msg t) := he _ (nth_mem (by omega))
   have h := (ih (by omega)).step (j := t) (by rw [rsRows_len]; omega) hc
   have e : (fun i => F.add (nth (vals F (tk msg k t) n) i) (F.mul (nth msg t) (nth (nthL (rsRows F k n k) t) i))) = nth (vals F (tk msg k (t + 1)) n) := by
    funext i
    rw [rsRows_nth F k n (show t < k by omega)]
    have e0 : tk msg k (t + 1) = List.zipWith F.add (tk msg k t) (scale F (nth msg t) (unit k t)) := eq_of_nth (by rw [List.length_zipWith, tk_len, tk_len, scale_len, unit_len]; omega) fun l hh => by
     rw [tk_len] at hh
     rw [nth_zip (by rw [tk_len, scale_len, unit_len]) (by rw [tk_len]; exact hh), tk_nth msg k _ hh, tk_nth msg k _ hh, scale_nth_all ok, unit_nth (by omega)]
     have hel : F.el (nth msg l) := he _ (nth_mem (by omega))
     rcases Nat.lt_trichotomy l t with h1 | h1 | h1
     · rw [if_pos (by omega), if_pos h1, if_neg (by omega), mul_zero_all ok, add_zero' ok hel]
     · rw [if_pos (by omega), if_neg (by omega), if_pos h1, mul_comm' ok, one_mul' ok hc, zero_add' ok hc, h1]
     · rw [if_neg (by omega), if_neg (by omega), if_neg (by omega), mul_zero_all ok, add_zero' ok (zero_el ok)]
    rcases Nat.lt_or_ge i n with hi | hi
    · rw [vals_nth F _ hi, vals_nth F _ hi, vals_nth F _ hi, e0, valF_add ok _ _ _ (by rw [tk_len, scale_len, unit_len]), valF_scale ok]
    · rw [nth_big (xs := vals F (tk msg k t) n) (by rw [vals_len]; exact hi), nth_big (xs := vals F (unit k t) n) (by rw [vals_len]; exact hi), nth_big (xs := vals F (tk msg k (t + 1)) n) (by rw [vals_len]; exact hi), mul_zero_all ok, add_zero' ok (zero_el ok)]
   rw [e] at h
   exact h
 have h := key k (Nat.le_refl _)
 rwa [show tk msg k k = msg from eq_of_nth (by rw [tk_len, hl]) fun l hh => by
  rw [tk_len] at hh
  rw [tk_nth msg k k hh, if_pos hh]] at h
theorem apart_self {a b : List Int} {k : Nat} (h : ∀ i, i < k → nth a i = nth b i) : apartTo a b k = 0 := by
 induction k with
 | zero => rfl
 | succ k ih => rw [apartTo, if_pos (h k (by omega)), ih fun i hi => h i (by omega)]
theorem apart_set {a b : List Int} (i : Nat) (x : Int) (k : Nat) : apartTo a (b.set i x) k ≤ apartTo a b k + 1 := by
 have h1 : ∀ k, k ≤ i → apartTo a (b.set i x) k = apartTo a b k := by
  intro k
  induction k with
  | zero => intro _; rfl
  | succ k ih => intro h; rw [apartTo, apartTo, ih (by omega), nth_set_ne (by omega)]
 induction k with
 | zero => exact Nat.zero_le _
 | succ k ih =>
  by_cases e : k = i
  · subst e
    have := h1 k (Nat.le_refl _)
    rw [apartTo, apartTo, this]
    split <;> split <;> omega
  · rw [apartTo, apartTo, nth_set_ne (fun h => e h.symm)]
    split <;> omega
theorem unit_el' (ok : F.Ok) (k i : Nat) : ∀ c ∈ unit k i, F.el c := fun c hc => by
 obtain ⟨n2, _⟩ := ok.n_bd
 rw [unit] at hc
 rcases List.mem_or_eq_of_mem_set hc with h | h
 · rw [zeros, List.mem_replicate] at h
   rw [h.2]; exact zero_el ok
 · rw [h]; exact one_el ok
theorem rs_rank (hG : F.Good) {k n : Nat} (hk : k ≤ n) (hn : n ≤ F.n) : ∀ t, t ≤ k → (form F (rsRows F k n t) n).length = t := by
 have ok := hG.ok
 intro t
 induction t with
 | zero => intro _; show (form F [] n).length = 0; rw [form_nil]; rfl
 | succ t ih =>
  intro ht
  have ih := ih (by omega)
  have hle : (form F (rsRows F k n (t + 1)) n).length ≤ t + 1 := by
   rw [form_len]
   have := red_piv F (rsRows F k n (t + 1)) n
   rwa [rsRows_len] at this
  have hM := rsRows_Mat ok k n t
  have hv : (vals F (unit k t) n).length = n ∧ ∀ x ∈ vals F (unit k t) n, 0 ≤ x ∧ x < F.n := ⟨vals_len _ _ _, vals_el ok _ _⟩
  rw [rsRows_succ] at hle ⊢
  have hr := rank_iff hG hM hv
  rw [ih] at hr
  obtain ⟨pa, _, hA, hsa⟩ := form_ech hG hM
  obtain ⟨pb, _, hB, hsb⟩ := form_ech hG (Mat_snoc hM hv)
  have hge := Ech.len_le ok hA hB fun v h => (hsb v).2 (Sp.of ok (fun j hj => by
   have e : nthL (rsRows F k n t) j = nthL (rsRows F k n t ++ [vals F (unit k t) n]) j := (nthL_snoc_lt hj).symm
   rw [e]
   exact Sp.row ok (Mat_snoc hM hv) (by rw [List.length_append]; omega)) ((hsa v).1 h))
  rw [ih] at hge
  rcases Nat.lt_or_ge (form F (rsRows F k n t ++ [vals F (unit k t) n]) n).length (t + 1) with hlt | hge2
  · exfalso
    obtain ⟨msg, hl, he, hz, hval⟩ := rs_poly ok (by omega) (hr.1 (by omega))
    have hu := vals_unique hG hn hk (m1 := msg) (m2 := unit k t) (w := vals F msg n) hl (unit_len _ _) he (unit_el' ok k t)
     (by rw [apart_self fun i _ => rfl]; omega) (by
      rw [apart_self fun i hi => by rw [hval i hi, vals_nth F _ hi]]
      omega)
    have h1 := hz t (Nat.le_refl _)
    rw [hu, unit_nth (by omega), if_pos rfl] at h1
    omega
  · omega
theorem rs_dist (hG : F.Good) {k n : Nat} (hk : k ≤ n) (hn : n ≤ F.n) (hC : GC F n (form F (rsRows F k n k) n)) : distC F n (form F (rsRows F k n k) n) + k = n + 1 := by
 have ok := hG.ok
 have hM := rsRows_Mat ok k n k
 obtain ⟨pa, _, hA, hsa⟩ := form_ech hG hM
 have hr := rs_rank hG hk hn k (Nat.le_refl _)
 have h1 := hC.singleton
 rw [hr] at h1
 obtain ⟨v, hvl, hvs, hvw⟩ := hC.dist_spec.1
 have h2 := hC.dist.1
 obtain ⟨msg, hl, he, _, hval⟩ := rs_poly ok (Nat.le_refl _) ((hsa _).1 hvs)
 rw [wt_wf hvl] at hvw
 have h3 := List.length_eq_countP_add_countP (fun i => nth v i != 0) (l := List.range n)
 rw [List.length_range] at h3
 rcases Nat.lt_or_ge ((List.range n).filter fun i => decide ¬((nth v i != 0) = true)).length k with hlt | hge
 · rw [← List.countP_eq_length_filter] at hlt
   rw [wf] at hvw
   omega
 · exfalso
   have hz := roots hG k msg (by omega) he (((List.range n).filter fun i => decide ¬((nth v i != 0) = true)).map fun (i : Nat) => (i : Int)) (by
    refine List.Pairwise.map _ (fun a b h e => h (by exact_mod_cast e)) (List.Pairwise.filter _ List.nodup_range)) (fun r hr => by
    obtain ⟨i, hi, rfl⟩ := List.mem_map.1 hr
    obtain ⟨hi1, hi2⟩ := List.mem_filter.1 hi
    rw [List.mem_range] at hi1
    refine ⟨(el_n ok).2 ⟨by omega, by omega⟩, ?_⟩
    rw [← hval i hi1]
    simpa using hi2) (by rw [List.length_map]; exact hge)
   obtain ⟨i, hi, hne⟩ := wf_pos (v := nth v) (k := n) (by omega)
   apply hne
   rw [hval i hi, show msg = zeros k from eq_of_nth (by rw [zeros_len, hl]) fun l hh => by rw [zeros_nth]; exact hz _ (nth_mem hh), valF_zeros ok]
end
end Go.Proofs.Ytgmgpcaahanmiaa
namespace Go.Proofs.Ytgmgpcaahanmiaa
open Go.RowKit
section
variable {F : FD} {n : Nat} {m A : List (List Int)}
theorem dotF_dt {xs ys : List Int} (h : xs.length = n) : dotF F xs ys = dt F n (nth xs) (nth ys) := by rw [dotF, h]; rfl
theorem or_nul_sp (hG : F.Good) {pv : List Nat} (hE : Ech F n m pv) {v : Nat → Int} (hv : ∀ i, F.el (v i)) (hb : ∀ i, n ≤ i → v i = 0) : Or F n (nul F m n) v ↔ Sp F m v := by
 have h := (nul_spec hG (nul_Mat hG.ok m n)).1 v hv hb
 rw [nul_nul hG hE] at h
 exact h.symm
theorem nth_el' (ok : F.Ok) {v : List Int} (h : ∀ x ∈ v, 0 ≤ x ∧ x < F.n) (i : Nat) : F.el (nth v i) := by
 rcases Nat.lt_or_ge i v.length with hi | hi
 · exact (el_n ok).2 (h _ (nth_mem hi))
 · rw [nth_big hi]; exact zero_el ok
theorem syn_iff (h : GC F n m) {v : List Int} (hl : v.length = n) (hv : ∀ x ∈ v, 0 ≤ x ∧ x < F.n) : (∀ x ∈ synTo F (nul F m n) v (nul F m n).length, x = 0) ↔ hasV F n m v = true := by
 have ok := h.good.ok
 obtain ⟨pv, hE⟩ := h.ech
 rw [hasV_iff h, ← or_nul_sp h.good hE (nth_el' ok hv) (fun i hi => nth_big (by omega))]
 have hNM : F.Mat n (nul F m n) := nul_Mat ok m n
 constructor
 · refine fun hz => ⟨hl, hv, fun j hj => ?_⟩
   rw [← dotF_dt (Mat_nth hNM hj).1]
   refine hz _ ?_
   rw [synTo, List.take_length]
   exact List.mem_map_of_mem (nthL_mem hj)
 · rintro ⟨_, _, ho⟩ x hx
   rw [synTo, List.take_length, List.mem_map] at hx
   obtain ⟨row, hr, rfl⟩ := hx
   obtain ⟨j, hj, rfl⟩ := List.getElem_of_mem hr
   rw [dotF_dt (hNM _ hr).1]
   have := ho j hj
   rwa [nthL_lt hj] at this
theorem nearI_min (wds : List (List Int)) (v : List Int) (n : Nat) (k : Nat) : ∀ j, j < k → apartTo (nthL wds (nearI wds v n k)) v n ≤ apartTo (nthL wds j) v n := by
 induction k with
 | zero => intro j hj; omega
 | succ k ih =>
  intro j hj
  rw [nearI]
  split
  · rename_i h
    rcases Nat.lt_or_eq_of_le (Nat.lt_succ_iff.1 hj) with h1 | h1
    · have := ih j h1; omega
    · rw [h1]; exact Nat.le_refl _
  · rename_i h
    rcases Nat.lt_or_eq_of_le (Nat.lt_succ_iff.1 hj) with h1 | h1
    · exact ih j h1
    · rw [h1]; omega
theorem apartTo_comm (a b : List Int) (k : Nat) : apartTo a b k = apartTo b a k := by
 induction k with
 | zero => rfl
 | succ k ih =>
  rw [apartTo, apartTo, ih]
  by_cases e : nth a k = nth b k
  · rw [if_pos e, if_pos e.symm]
  · rw [if_neg e, if_neg fun h => e h.symm]
theorem apart_wf (ok : F.Ok) {a b : List Int} (ha : ∀ i, F.el (nth a i)) (hb : ∀ i, F.el (nth b i)) (w : List Int) (k : Nat) : wf (fun i => F.sub (nth a i) (nth b i)) k ≤ apartTo a w k + apartTo b w k := by
 induction k with
 | zero => exact Nat.zero_le _
 | succ k ih =>
  rw [wf, List.range_succ, List.countP_append, apartTo, apartTo]
  rw [wf] at ih
  by_cases e : nth a k = nth b k
  · have h0 : F.sub (nth a k) (nth b k) = 0 := by rw [e, sub_self' ok]
    simp only [h0, List.countP_cons, List.countP_nil, bne_self_eq_false, Bool.false_eq_true, if_false]
    split <;> split <;> omega
  · have h0 : F.sub (nth a k) (nth b k) ≠ 0 := fun h => e (eq_of_sub ok (ha k) (hb k) h)
    have h1 : ((F.sub (nth a k) (nth b k) != 0) = true) := by simpa using h0
    simp only [List.countP_cons, List.countP_nil, h1, if_true]
    by_cases e1 : nth a k = nth w k
    · rw [if_pos e1, if_neg (fun h => e (e1.trans h.symm))]; omega
    · rw [if_neg e1]; split <;> omega
theorem near_word (h : GC F n m) {word bent : List Int} (hl : word.length = n) (hs : Sp F m (nth word)) (hd : 2 * apartTo word bent n < distC F n m) : nearV F n m bent = (word, (apartTo word bent n : Int), 0) := by
 have ok := h.good.ok
 obtain ⟨j, hj, e⟩ := h.sp_word hl hs
 have hw := wordsTo_len F n m m.length
 obtain ⟨t, hT⟩ : ∃ t, t = nearI (wordsTo F n m m.length) bent n (wordsTo F n m m.length).length := ⟨_, rfl⟩
 have ht : t < F.n ^ m.length := by
  have := nearI_lt (wordsTo F n m m.length) bent n (k := (wordsTo F n m m.length).length) (by omega)
  omega
 have hmin := nearI_min (wordsTo F n m m.length) bent n (wordsTo F n m m.length).length j (by omega)
 rw [← hT, e] at hmin
 obtain ⟨h1, h2, h3⟩ := h.word_sp ht
 have hsub := hs.sub ok h3 1
 have hwf := apart_wf ok (a := word) (b := nthL (wordsTo F n m m.length) t) (hs.el ok) (h3.el ok) bent n
 have e2 : (fun i => F.sub (nth word i) (F.mul 1 (nth (nthL (wordsTo F n m m.length) t) i))) = fun i => F.sub (nth word i) (nth (nthL (wordsTo F n m m.length) t) i) := by
  funext i
  rw [one_mul' ok (h3.el ok i)]
 rw [e2] at hsub
 have heq : nthL (wordsTo F n m m.length) t = word := by
  rcases Nat.eq_zero_or_pos (wf (fun i => F.sub (nth word i) (nth (nthL (wordsTo F n m m.length) t) i)) n) with hz | hz
  · refine eq_of_nth (by rw [h1, hl]) fun i hi => ?_
    rw [h1] at hi
    rcases Classical.em (F.sub (nth word i) (nth (nthL (wordsTo F n m m.length) t) i) = 0) with h0 | h0
    · exact (eq_of_sub ok (hs.el ok i) (h3.el ok i) h0).symm
    · have := wf_one (v := fun i => F.sub (nth word i) (nth (nthL (wordsTo F n m m.length) t) i)) hi h0
      omega
  · exfalso
    obtain ⟨u, hu⟩ : ∃ u : List Int, u = (List.range n).map fun i => F.sub (nth word i) (nth (nthL (wordsTo F n m m.length) t) i) := ⟨_, rfl⟩
    have hul : u.length = n := by rw [hu]; simp
    have hun : nth u = fun i => F.sub (nth word i) (nth (nthL (wordsTo F n m m.length) t) i) := by
     funext i
     rcases Nat.lt_or_ge i n with hi | hi
     · rw [hu]; simp [nth, hi]
     · rw [nth_big (by omega), nth_big (by omega), nth_big (by omega), sub_self' ok]
    have := h.dist_spec.2 u hul (by rw [hun]; exact hsub) (by rw [wt_wf hul, hun]; exact hz)
    rw [wt_wf hul, hun] at this
    omega
 rw [nearV, ← hT, heq]
end
end Go.Proofs.Ytgmgpcaahanmiaa
