/-
  Texts joined.
-/
import Derived.Test.YtgmgpcaahanmiaaH4
import Derived.Test.YtgmgpcaahanmiaaH6
import Derived.Test.YtgmgpcaahanmiaaH7
import Derived.Test.YtgmgpcaahanmiaaH18
import Derived.Test.YtgmgpcaahanmiaaH21
set_option linter.unusedVariables false
set_option linter.unusedSimpArgs false
set_option maxRecDepth 100000
set_option maxHeartbeats 40000000
namespace Go.Proofs.Ytgmgpcaahanmiaa
open Go.RowKit
attribute [local go_sem ↓] Go.wp_at_zero Go.wp_at_succ
theorem Own.mk {w w' : World} {B g : Nat} {v : Value} {xs : List Int} (h : Own w B v xs) (m : Mk w w' g (g + 1)) (hB : g < B) : Own w' B v xs := (h.toH.kp (m.kp (.inr (by omega)) (Nat.le_refl _))).1
theorem OwnS.mk {w w' : World} {B g : Nat} {v : Value} {xss : List (List Int)} (h : OwnS w B v xss) (m : Mk w w' g (g + 1)) (hB : g < B) : OwnS w' B v xss := (h.toH.kp (m.kp (.inr (by omega)) (Nat.le_refl _))).own
theorem Mk.own {w a b : World} {lo hi k : Nat} (h : Mk w a lo hi) (hg : a.grownBy b (some k)) (hk : w.heap.size ≤ k) (hlo : lo ≤ w.heap.size) : Mk w b lo hi :=
 ⟨h.1.grown hg (by have := h.size; omega) (fun q hq => by injection hq; omega), fun c hc hcw => (hg.block c (by have := h.size; omega) (fun e => by injection e; omega)).trans (h.2 c hc hcw)⟩
theorem Mk.new {w a b : World} {lo hi : Nat} (h : Mk w a lo hi) (hb : Below w.heap.size a b) (hlo : lo ≤ w.heap.size) : Mk w b lo hi := ⟨h.1.trans (hb.mono hlo), fun c hc hcw => (hb.block c hcw).trans (h.2 c hc hcw)⟩
theorem Mk.app {w a b : World} {lo hi B : Nat} {v : Value} {xs : List Int} (h : Mk w a lo hi) (hg : a.grownBy b v.ownBlock) (ho : Own a B v xs) (hB : w.heap.size ≤ B) (hlo : lo ≤ w.heap.size) : Mk w b lo hi := by
 cases e : v.ownBlock with
 | none =>
  rw [e] at hg
  refine ⟨h.1.grown hg (by have := h.size; omega) (fun q hq => by simp at hq), fun c hc hcw => (hg.block c (by have := h.size; omega) (by simp)).trans (h.2 c hc hcw)⟩
 | some k =>
  rw [e] at hg
  exact h.own hg (by have := (ho.lt k e).1; omega) hlo
theorem Src.keep {w w' : World} {g T B : Nat} (h : Src w g T) (hb : Below B w w') (hB : g < B) : Src w' g T := h.kp ⟨hb.size, fun c _ hc => hb.block c (by omega)⟩
end Go.Proofs.Ytgmgpcaahanmiaa
namespace Go.Proofs.Ytgmgpcaahanmiaa
open Go.RowKit
attribute [local go_sem ↓] Go.wp_at_zero Go.wp_at_succ
def TwoD (w : World) (g T : Nat) (e : Ending) (w' : World) : Prop := ∃ q r : Int, e = .returned (.tuple #[.int .i64 q, .int .i64 r]) ∧ -2 ≤ q ∧ q ≤ 65 ∧ 0 ≤ r ∧ r ≤ 6 ∧ Src w' g T ∧ Mk w w' g (g + 1)
theorem drawChecks_any (g T : Nat) (w : World) (h : Src w g T) (hT : T ≤ 1000000000) :
    Calls Try.prog 97 #[.pointer (some ⟨g, 0, none⟩)] w (TwoD w g (T + 10)) := by
 have H1 := hide (one_any g T 5 w h (by omega))
 have hlt := h.lt
 clear h
 go_enter Try.func97, Try.ntmps97
 go_wp2_with fail
 refine (unhide H1).mono ?_
 rintro e w1 ⟨b, rfl, s1, m1⟩
 cases b with
 | true =>
  go_wp2_with fail
  refine (drawSize_any g (T + 2) w1 s1 (by omega)).mono ?_
  rintro e w2 ⟨q, rfl, hq1, hq2, s2, m2⟩
  go_wp2_with fail
  refine (pick_any g (T + 2 + 4) 7 w2 s2 (by omega)).mono ?_
  rintro e w3 ⟨x, rfl, hx, hx2, s3, m3⟩
  go_wp2
  go_ret2
  exact ⟨q, x, rfl, hq1, hq2, by omega, by omega, s3.mono (by omega), (m1.trans m2).trans m3⟩
 | false =>
  go_wp2_with fail
  refine (pick_any g (T + 2) 6 w1 s1 (by omega)).mono ?_
  rintro e w2 ⟨x, rfl, hx, hx2, s2, m2⟩
  have m12 := m1.trans m2
  have s2' := s2.mono (show T + 2 + 2 ≤ T + 10 by omega)
  by_cases h0 : x = 0
  · subst h0
    go_wp2
    go_ret2
    exact ⟨2, 2, rfl, by omega, by omega, by omega, by omega, s2', m12⟩
  by_cases h1 : x = 1
  · subst h1
    go_wp2
    go_ret2
    exact ⟨2, 3, rfl, by omega, by omega, by omega, by omega, s2', m12⟩
  by_cases h2 : x = 2
  · subst h2
    go_wp2
    go_ret2
    exact ⟨2, 4, rfl, by omega, by omega, by omega, by omega, s2', m12⟩
  by_cases h3 : x = 3
  · subst h3
    go_wp2
    go_ret2
    exact ⟨3, 2, rfl, by omega, by omega, by omega, by omega, s2', m12⟩
  by_cases h4 : x = 4
  · subst h4
    go_wp2
    go_ret2
    exact ⟨4, 2, rfl, by omega, by omega, by omega, by omega, s2', m12⟩
  have hn0 : ((x : Int) == 0) = false := by rw [beq_eq_false_iff_ne]; omega
  have hn1 : ((x : Int) == 1) = false := by rw [beq_eq_false_iff_ne]; omega
  have hn2 : ((x : Int) == 2) = false := by rw [beq_eq_false_iff_ne]; omega
  have hn3 : ((x : Int) == 3) = false := by rw [beq_eq_false_iff_ne]; omega
  have hn4 : ((x : Int) == 4) = false := by rw [beq_eq_false_iff_ne]; omega
  go_wp2_with fail
  refine (among_new g (T + 2 + 2) [3, 5, 7] w2 s2 (by omega) (by decide) (by decide) rfl rfl).mono ?_
  rintro e w3 ⟨i, hi, rfl, s3, m3⟩
  have hb := nth_all (P := fun q => -2 ≤ q ∧ q ≤ 65) hi (by decide)
  generalize nth [3, 5, 7] i = q at hb
  go_wp2_with fail
  refine (pick_any g (T + 2 + 2 + 2) 2 w3 s3 (by omega)).mono ?_
  rintro e w4 ⟨y, rfl, hy, hy2, s4, m4⟩
  go_wp2
  go_ret2
  exact ⟨q, (y : Int) + 2, rfl, hb.1, hb.2, by omega, by omega, s4.mono (by omega), (m12.trans m3).trans m4⟩
theorem drawHC_any (a : Option Addr) (c : Nat) (bs : List Int) (w : World) (h : RdB w a bs) :
    Calls Try.prog 31 #[.slice a bs.length c] w fun e w' => ∃ q r : Int, e = .returned (.tuple #[.int .i64 q, .int .i64 r]) ∧ -2 ≤ q ∧ q ≤ 65 ∧ 0 ≤ r ∧ r ≤ 6 ∧ Below w.heap.size w w' := by
 have H1 := hide (from_any a c bs w h)
 clear h
 go_enter Try.func31, Try.ntmps31
 go_wp2_with fail
 refine (unhide H1).mono ?_
 rintro e w1 ⟨rfl, s1, b1, hlt⟩
 go_wp2_with fail
 refine (drawChecks_any w.heap.size 0 w1 s1 (by omega)).mono ?_
 rintro e w2 ⟨q, r, rfl, h1, h2, h3, h4, _, m2⟩
 go_wp2
 go_ret2
 exact ⟨q, r, rfl, h1, h2, h3, h4, b1.trans m2.1⟩
theorem drawWord_any (g T : Nat) (q : Int) (n : Nat) (w : World) (h : Src w g T) (hn : n ≤ 1000) (hT : T ≤ 1000000) (hq1 : -2 ≤ q) (hq2 : q ≤ 65) :
    Calls Try.prog 99 #[.pointer (some ⟨g, 0, none⟩), .int .i64 q, .int .i64 n] w fun e w' => ∃ (v : Value) (xs : List Int), e = .returned v ∧ Own w' w.heap.size v xs ∧ Mk w w' g (g + 1) := by
 have hlt := h.lt
 have HS := hide h
 clear h
 go_enter Try.func99, Try.ntmps99
 go_wp2_with fail
 go_loopw [7, 8] (fun v iv wr => ∃ (i : Nat) (xs : List Int), iv = .int .i64 i ∧ i ≤ n ∧ xs.length = i ∧ Hid (Own wr w.heap.size v xs) ∧ Hid (Src wr g (T + 2 * i)) ∧ Mk w wr g (g + 1)) (fun _ iv _ => n - (intOf iv).toNat)
 case atStart => exact ⟨0, [], rfl, Nat.zero_le _, rfl, Own.empty w (Nat.le_refl _), ((unhide HS).below ((Below.refl _ _).alloc (Nat.le_refl _) _)), Mk.alloc ((Below.refl _ _).alloc (Nat.le_refl _) _) (by omega)⟩
 case round =>
  obtain ⟨i, xs, rfl, hi, hl, ho, hs, hmk⟩ := hrel
  have hsz := hmk.size
  by_cases hil : i < n
  · obtain ⟨v7, rfl⟩ : ∃ v7, v7 = u7 := ⟨_, rfl⟩
    go_wp2_with fail
    refine (l00Max_any q 1 wr).mono ?_
    rintro e wr' ⟨rfl, rfl⟩
    generalize max q 1 = a
    go_wp2_with fail
    refine (pick_any g (T + 2 * i) a wr hs.out (by omega)).mono ?_
    rintro e w1 ⟨x, rfl, hx, hx2, s1, m1⟩
    have o1 := ho.out.mk m1 hlt
    have mk1 := hmk.trans m1
    have z1 := mk1.size
    have HO := Lib.hid o1
    clear o1 ho hs hx hx2
    go_wp2_with (at_builtin; refine wpList_append_ints rfl (.tmp 15) (.tmp 20) rfl w.heap.size v7 xs [(x : Int)] rfl (HO.out.alloc _) _ 1 1 rfl rfl (Rd.one w1 x _) (by simp; omega) (by simp; omega) ?_; intro v2 w2 o2 g2 _)
    go_roundw
    case rel =>
     have b2 : Below w.heap.size w1 w2 := Below.step ((Below.refl _ _).alloc z1 _) g2 (HO.out.alloc _) (Nat.le_refl _) (by simp; omega)
     exact ⟨i + 1, xs ++ [(x : Int)], by go_num, by omega, by simp [hl], o2, (s1.keep b2 hlt).mono (by omega), mk1.new b2 (by omega)⟩
    case measure => simp only [intOf]; omega
  · have hin : i = n := by omega
    have hxl : xs.length ≤ 1000 := by omega
    obtain ⟨v7, rfl⟩ : ∃ v7, v7 = u7 := ⟨_, rfl⟩
    clear hl
    go_wp2_with fail
    refine (pick_any g (T + 2 * i) 12 wr hs.out (by omega)).mono ?_
    rintro e w1 ⟨x, rfl, hx, hx2, s1, m1⟩
    have o1 := ho.out.mk m1 hlt
    have mk1 := hmk.trans m1
    have z1 := mk1.size
    clear ho hs hin
    by_cases h0 : x = 0
    · subst h0
      have HO := Lib.hid o1
      clear o1
      go_wp2_with (at_builtin; refine wpList_append_ints rfl (.tmp 26) (.tmp 27) rfl w.heap.size v7 xs [0] rfl (HO.out.alloc _) _ 1 1 rfl rfl (Rd.one w1 0 _) (by simp; omega) (by simp; omega) ?_; intro v2 w2 o2 g2 _)
      have b2 : Below w.heap.size w1 w2 := Below.step ((Below.refl _ _).alloc z1 _) g2 (HO.out.alloc _) (Nat.le_refl _) (by simp; omega)
      go_ret
      exact ⟨_, _, rfl, o2, mk1.new b2 (by omega)⟩
    · have hn0 : ((x : Int) == 0) = false := by rw [beq_eq_false_iff_ne]; omega
      by_cases h1 : x = 1
      · subst h1
        by_cases hx0 : 0 < xs.length
        · obtain ⟨g7, c7, rfl, hg7, hg7', _, _⟩ := o1.at_len (n := xs.length) rfl hx0
          have O1 := Lib.hid o1
          clear o1
          go_wp2_with fail
          refine (among_new g (T + 2 * i + 2) [-1, q] w1 s1 (by omega) (by simp) (by simp) rfl rfl).mono ?_
          rintro e w2 ⟨j, hj, rfl, s2, m2⟩
          have o2 := O1.out.mk m2 hlt
          have cx := o2.cell (j := 0) hx0
          have fx := o2.frozen 0
          have mk2 := mk1.trans m2
          generalize nth [-1, q] j = y
          go_wp2
          go_ret
          have hst := o2.set 0 y
          exact ⟨_, _, rfl, hst.1, mk2.own hst.2 (by omega) (by omega)⟩
        · obtain ⟨a7, c7, rfl, _, _⟩ := o1.form
          go_wp2
          go_ret
          exact ⟨_, xs, rfl, o1, mk1⟩
      · have hn1 : ((x : Int) == 1) = false := by rw [beq_eq_false_iff_ne]; omega
        go_wp2
        go_ret
        exact ⟨_, xs, rfl, o1, mk1⟩
theorem drawCO_any (a : Option Addr) (c : Nat) (bs : List Int) (w : World) (h : RdB w a bs) :
    Calls Try.prog 21 #[.slice a bs.length c] w fun e w' => ∃ (q r : Int) (v : Value) (xs : List Int), e = .returned (.tuple #[.int .i64 q, .int .i64 r, v]) ∧ Own w' w.heap.size v xs ∧ Below w.heap.size w w' := by
 have H1 := hide (from_any a c bs w h)
 clear h
 go_enter Try.func21, Try.ntmps21
 go_wp2_with fail
 refine (unhide H1).mono ?_
 rintro e w1 ⟨rfl, s1, b1, hlt⟩
 go_wp2_with fail
 refine (drawChecks_any w.heap.size 0 w1 s1 (by omega)).mono ?_
 rintro e w2 ⟨q, r, rfl, h1, h2, h3, h4, s2, m2⟩
 have hA := l19Ask_any q r w2
 have hbb := b1.trans m2.1
 cases hk : (isField q && colsOk q r) with
 | false =>
  rw [hk] at hA
  have HA := hide hA
  clear hA hk
  go_wp2_with fail
  refine (unhide HA).mono ?_
  rintro e w2' ⟨rfl, rfl⟩
  go_wp2_with fail
  refine (drawWord_any w.heap.size (0 + 10) q 5 w2 s2 (by omega) (by omega) h1 h2).mono ?_
  rintro e w3 ⟨v, xs, rfl, o3, m3⟩
  go_wp2
  go_ret3
  exact ⟨q, r, v, xs, rfl, o3.mono (hbb.size), hbb.trans m3.1⟩
 | true =>
  rw [hk] at hA
  rw [Bool.and_eq_true] at hk
  obtain ⟨c1, c2, c3⟩ := colsOk_true hk.2
  obtain ⟨q2, q64, _⟩ := isField_size hk.1
  obtain ⟨Q, rfl⟩ := Int.eq_ofNat_of_zero_le (show 0 ≤ q by omega)
  obtain ⟨R, rfl⟩ := Int.eq_ofNat_of_zero_le (show 0 ≤ r by omega)
  have hm := l19Many_any Q R w2 (by omega) (by omega) (by omega)
  rw [Int.toNat_natCast, Int.toNat_natCast] at c3
  rw [manyR, if_pos c3] at hm
  have HA := hide hA
  have HM := hide hm
  clear hA hk hm
  go_wp2_with fail
  refine (unhide HA).mono ?_
  rintro e w2' ⟨rfl, rfl⟩
  go_wp2_with fail
  refine (unhide HM).mono ?_
  rintro e w2' ⟨rfl, rfl⟩
  go_wp2_with fail
  refine (drawWord_any w.heap.size (0 + 10) Q (many Q R) w2 s2 (by omega) (by omega) h1 h2).mono ?_
  rintro e w3 ⟨v, xs, rfl, o3, m3⟩
  go_wp2
  go_ret3
  exact ⟨Q, R, v, xs, rfl, o3.mono (hbb.size), hbb.trans m3.1⟩
end Go.Proofs.Ytgmgpcaahanmiaa
namespace Go.Proofs.Ytgmgpcaahanmiaa
open Go.RowKit
attribute [local go_sem ↓] Go.wp_at_zero Go.wp_at_succ
theorem implHC_any (q r : Int) (w : World) : Calls Try.prog 23 #[.int .i64 q, .int .i64 r] w (ResC w (hamRes q r)) := by
 obtain ⟨W0, hHW⟩ : ∃ z, z = w.alloc (.cells #[.int .i64 0, .int .i64 0, .slice none 0 0, .slice none 0 0] 37) := ⟨_, rfl⟩
 have b0 : Below w.heap.size w W0 := by rw [hHW]; exact (Below.refl _ _).alloc (Nat.le_refl _) _
 have kr : Blk W0 w.heap.size 37 #[.int .i64 0, .int .i64 0, .slice none 0 0, .slice none 0 0] := by rw [hHW]; exact Blk.new _ _ _ rfl
 have sk0 : w.heap.size < W0.heap.size := kr.lt
 have HW := Lib.hid hHW
 clear hHW
 generalize hR : hamRes q r = rr
 cases hk : (isField q && colsOk q r) with
 | false =>
  have HN := Lib.hid (show rr = (0, 0, [], [], 2) by rw [← hR, hamRes, hk]; rfl)
  have hV := checked_no q r W0 hk
  have HV := hide hV
  clear hV hk hR
  go_enter Try.func23, Try.ntmps23
  go_upto_region 1 with fail
  rw [← HW.out]
  go_wp2_with fail
  refine (unhide HV).mono ?_
  rintro e w1 ⟨rfl, b1⟩
  obtain ⟨W1, hHF⟩ : ∃ z, z = w1.alloc (.cells #[.int .i64 0, .int .i64 0, .slice none 0 0] 34) := ⟨_, rfl⟩
  have bF : Below w1.heap.size w1 W1 := by rw [hHF]; exact (Below.refl _ _).alloc (Nat.le_refl _) _
  have kF : Blk W1 w1.heap.size 34 #[.int .i64 0, .int .i64 0, .slice none 0 0] := by rw [hHF]; exact Blk.new _ _ _ rfl
  have HF := Lib.hid hHF
  clear hHF
  have c1x := Below.chain b1 bF
  have kr2 := kr.below c1x kr.lt
  go_upto_region 2 with fail
  rw [← HF.out]
  have r0 := kr2.cell 0
  have r1 := kr2.cell 1
  have r2 := kr2.cell 2
  have r3 := kr2.cell 3
  have s0 := kr2.frozen 0
  have s1 := kr2.frozen 1
  have s2 := kr2.frozen 2
  have s3 := kr2.frozen 3
  go_wp2
  refine bodyPost_ret (results_cell_tmp_row rfl _ _ w.heap.size 37 #[.int .i64 0, .int .i64 0, .slice none 0 0, .slice none 0 0] _ rfl (kr2.b4.store _ _ _ _) Try.underlying37 rfl (by kernel_rfl)) rfl ?_
  rw [HN.out]
  exact ⟨_, _, rfl, OwnC.nil _ _, Below.set4 (b0.trans (c1x.mono (Nat.le_of_lt sk0))) (Nat.le_refl _) _ _ _ _⟩
 | true =>
  obtain ⟨hf, hc⟩ : isField q = true ∧ colsOk q r = true := by rw [Bool.and_eq_true] at hk; exact hk
  obtain ⟨hr2, hr4, hC3, hC32, hCM⟩ := hcols_bd hf hc
  have hG := fdOf_good hf
  have ok := hG.ok
  obtain ⟨n2, n64⟩ := ok.n_bd
  have hV := checked_yes q r W0 hf hc
  have hRR : rr = mkC (fdOf q) (nul (fdOf q) (cols (hcols q r) r.toNat) (hcols q r).length) := by rw [← hR, hamRes, hk]; rfl
  have hr0 := (colsOk_true hc).1
  obtain ⟨R, rfl⟩ := Int.eq_ofNat_of_zero_le (show 0 ≤ r by omega)
  clear hk hc hR hr0 hf
  rw [Int.toNat_natCast] at *
  generalize fdOf q = F at *
  generalize hcols q R = C at *
  have hl : ∀ xs ∈ C, xs.length = R := fun xs h => (hCM xs h).1
  have hT := fun a c W (h : Rd W a F.poly) => tablesOf_any F a c W h ok
  have hCO := fun a d W (h : RdS W a C) => columnsOf_any a d C R W h hl (by omega) (by omega)
  have hMM := cols_Mat ok hCM
  have hMl := cols_len C R
  obtain ⟨M, hM⟩ : ∃ M, M = cols C R := ⟨_, rfl⟩
  rw [← hM] at hCO hMM hMl hRR
  have hNS := fun tv a d W hT (hy : RdS W a M) => nullSpace_any F tv a d M C.length W hT hG hy (by omega) hMM (by omega) (by omega)
  have hNM := nul_Mat ok M C.length
  have hNF := nul_fix hG (m := M) (n := C.length)
  obtain ⟨N, hN⟩ : ∃ N, N = nul F M C.length := ⟨_, rfl⟩
  rw [← hN] at hNS hNM hNF hRR
  have hCD := fun a c b d W (hx : Rd W a F.poly) (hy : RdS W b N) => codeOf_all F a c b d N C.length W hx hG hy hNM
  rw [hNF] at hCD
  have HT := hide hT
  have HCO := hide hCO
  have HNS := hide hNS
  have HCD := hide hCD
  have HRR := Lib.hid hRR
  have HV := hide hV
  clear hT hCO hNS hCD hRR hV hMM hM hN hl hCM hMl hNM hNF
  go_enter Try.func23, Try.ntmps23
  go_upto_region 1 with fail
  rw [← HW.out]
  go_wp2_with fail
  refine (unhide HV).mono ?_
  rintro e w1 ⟨v1, u1, rfl, o1, q1, b1⟩
  obtain ⟨a1, c1, rfl, _, _⟩ := o1.form
  obtain ⟨au, cu, rfl, _⟩ := q1.form
  obtain ⟨W1, hHF⟩ : ∃ z, z = w1.alloc (.cells #[.int .i64 F.p, .int .i64 F.k, .slice a1 F.poly.length c1] 34) := ⟨_, rfl⟩
  have bF : Below w1.heap.size w1 W1 := by rw [hHF]; exact (Below.refl _ _).alloc (Nat.le_refl _) _
  have kF : Blk W1 w1.heap.size 34 #[.int .i64 F.p, .int .i64 F.k, .slice a1 F.poly.length c1] := by rw [hHF]; exact Blk.new _ _ _ rfl
  have HF := Lib.hid hHF
  clear hHF
  have c1x := Below.chain b1 bF
  have z1 := b1.size
  have zF := kF.lt
  have hH0 : HamH w W0.heap.size w1.heap.size F a1 c1 au cu C W1 := ⟨b0.trans (c1x.mono (Nat.le_of_lt sk0)), ⟨sk0, c1x.size, zF, by omega⟩, kF, o1.below bF (Nat.le_refl _), q1.below bF (Nat.le_refl _), (kr.below c1x kr.lt).b4⟩
  have BX := hide (show ∀ W, HamH w W0.heap.size w1.heap.size F a1 c1 au cu C W → (HamH w W0.heap.size w1.heap.size F a1 c1 au cu C W ∧ W.cell? ⟨w1.heap.size, 0, none⟩ = some (.int .i64 F.p) ∧ W.cell? ⟨w1.heap.size, 1, none⟩ = some (.int .i64 F.k) ∧ W.cell? ⟨w1.heap.size, 2, none⟩ = some (.slice a1 F.poly.length c1)) from fun W h => ⟨h, h.kF.cell 0, h.kF.cell 1, h.kF.cell 2⟩)
  have hH1 := hH0.next (Below.refl _ _).drew
  clear b1 bF kF o1 q1 c1x
  go_upto_region 4 with fail
  rw [← HF.out]
  refine wp_region_noPanic ?_
  refine wp_region_ord (S := (fun W => HamH w W0.heap.size w1.heap.size F a1 c1 au cu C W ∧ W.cell? ⟨w1.heap.size, 0, none⟩ = some (.int .i64 F.p) ∧ W.cell? ⟨w1.heap.size, 1, none⟩ = some (.int .i64 F.k) ∧ W.cell? ⟨w1.heap.size, 2, none⟩ = some (.slice a1 F.poly.length c1))) [(true, 0), (true, 1), (true, 3), (true, 4), (true, 6), (true, 7), (false, 2), (false, 5), (false, 8), (false, 9), (true, 10), (true, 11), (false, 12), (true, 13)] (by kernel_rfl) (by kernel_rfl) (by kernel_rfl) rfl (fun _ _ _ _ _ h => h) ?_ (fun hHeld => ?_)
  · exact (unhide BX) _ hH1
  refine SeqO.take (by rfl) (v := ?hv1) (by rfl) ?hy1 ?hr1
  case hy1 =>
   intro w hSw
   try dsimp only at hSw
   go_simp
   try (with_reducible rfl)
  try simp only [Act.put, List.setIfInBounds_toArray, List.set_cons_zero, List.set_cons_succ]
  refine SeqO.take (by rfl) (v := ?hv2) (by rfl) ?hy2 ?hr2
  case hy2 =>
   intro w hSw
   try dsimp only at hSw
   go_simp
   try (with_reducible rfl)
  try simp only [Act.put, List.setIfInBounds_toArray, List.set_cons_zero, List.set_cons_succ]
  refine SeqO.take (by rfl) (v := ?hv3) (by rfl) ?hy3 ?hr3
  case hy3 =>
   intro w hSw
   try dsimp only at hSw
   go_simp
   try (with_reducible rfl)
  try simp only [Act.put, List.setIfInBounds_toArray, List.set_cons_zero, List.set_cons_succ]
  refine SeqO.take (by rfl) (v := ?hv4) (by rfl) ?hy4 ?hr4
  case hy4 =>
   intro w hSw
   try dsimp only at hSw
   go_simp
   try (with_reducible rfl)
  try simp only [Act.put, List.setIfInBounds_toArray, List.set_cons_zero, List.set_cons_succ]
  refine SeqO.take (by rfl) (v := ?hv5) (by rfl) ?hy5 ?hr5
  case hy5 =>
   intro w hSw
   try dsimp only at hSw
   go_simp
   try (with_reducible rfl)
  try simp only [Act.put, List.setIfInBounds_toArray, List.set_cons_zero, List.set_cons_succ]
  refine SeqO.take (by rfl) (v := ?hv6) (by rfl) ?hy6 ?hr6
  case hy6 =>
   intro w hSw
   try dsimp only at hSw
   go_simp
   try (with_reducible rfl)
  try simp only [Act.put, List.setIfInBounds_toArray, List.set_cons_zero, List.set_cons_succ]
  refine SeqO.call (by rfl) (fun K hK => ?_)
  go_simp
  refine (unhide HT _ _ _ hH1.po.rd).mono ?_
  rintro e w2 ⟨tv, rfl, t2, b2⟩
  have hB2 := hH1.next b2
  go_wp2_with fail
  refine hK.out _ _ ?_ (fun hHeld => ?_)
  · exact (unhide BX) _ hB2
  clear hK K
  try simp only [Act.put, List.setIfInBounds_toArray, List.set_cons_zero, List.set_cons_succ]
  refine SeqO.call (by rfl) (fun K hK => ?_)
  go_simp
  refine (unhide HCO _ _ _ hB2.co.rd).mono ?_
  rintro e w3 ⟨u, rfl, o3, b3⟩
  obtain ⟨ax, cx, rfl, r3⟩ := o3.form
  have hB3 := hB2.next b3
  go_wp2_with fail
  refine hK.out _ _ ?_ (fun hHeld => ?_)
  · exact (unhide BX) _ hB3
  clear hK K
  try simp only [Act.put, List.setIfInBounds_toArray, List.set_cons_zero, List.set_cons_succ]
  refine SeqO.call (by rfl) (fun K hK => ?_)
  go_simp
  refine (unhide HNS tv ax cx _ (t2.below b3) (r3)).mono ?_
  rintro e w4 ⟨u4, rfl, o4, b4⟩
  obtain ⟨ay, cy, rfl, r4⟩ := o4.form
  have hB4 := hB3.next b4
  go_wp2_with fail
  refine hK.out _ _ ?_ (fun hHeld => ?_)
  · exact (unhide BX) _ hB4
  clear hK K
  try simp only [Act.put, List.setIfInBounds_toArray, List.set_cons_zero, List.set_cons_succ]
  refine SeqO.call (by rfl) (fun K hK => ?_)
  go_simp
  refine (unhide HCD _ _ ay cy _ hB4.po.rd r4).mono ?_
  rintro e w5 ⟨v5, u5, rfl, o5, b5⟩
  have hB5 := hB4.next b5
  obtain ⟨qq, hqq⟩ : ∃ qq, qq = mkC F N := ⟨_, rfl⟩
  rw [← hqq] at o5 ⊢
  obtain ⟨rp, rd, rx, ry, rz⟩ := qq
  simp only [] at o5 ⊢
  obtain ⟨a5, c5, p5, d5, rfl, rfl, _, _⟩ := o5.form
  have HQ := Lib.hid hqq
  clear hqq
  obtain ⟨x0, x1, x2, x3, kr5⟩ := hB5.kr
  have r0 := kr5.cell 0
  have r1 := kr5.cell 1
  have r2 := kr5.cell 2
  have r3' := kr5.cell 3
  have s0 := kr5.frozen 0
  have s1 := kr5.frozen 1
  have s2 := kr5.frozen 2
  have s3 := kr5.frozen 3
  have hB6 := hB5.store
  have z4 := b5.size
  go_wp2_with fail
  refine hK.out _ _ ?_ (fun hHeld => ?_)
  · exact (unhide BX) _ hB5
  clear hK K
  try simp only [Act.put, List.setIfInBounds_toArray, List.set_cons_zero, List.set_cons_succ]
  refine SeqO.take (by rfl) (v := ?hv7) (by rfl) ?hy7 ?hr7
  case hy7 =>
   intro w hSw
   try dsimp only at hSw
   go_simp
   try (with_reducible rfl)
  try simp only [Act.put, List.setIfInBounds_toArray, List.set_cons_zero, List.set_cons_succ]
  refine SeqO.take (by rfl) (v := ?hv8) (by rfl) ?hy8 ?hr8
  case hy8 =>
   intro w hSw
   try dsimp only at hSw
   go_simp
   try (with_reducible rfl)
  try simp only [Act.put, List.setIfInBounds_toArray, List.set_cons_zero, List.set_cons_succ]
  refine SeqO.call (by rfl) (fun K hK => ?_)
  go_simp
  refine hK.out _ _ ?_ (fun hHeld => ?_)
  · exact (unhide BX) _ (hB6 _ _ _ _)
  clear hK K
  try simp only [Act.put, List.setIfInBounds_toArray, List.set_cons_zero, List.set_cons_succ]
  refine SeqO.take (by rfl) (v := ?hv9) (by rfl) ?hy9 ?hr9
  case hy9 =>
   intro w hSw
   try dsimp only at hSw
   go_simp
   try (with_reducible rfl)
  try simp only [Act.put, List.setIfInBounds_toArray, List.set_cons_zero, List.set_cons_succ]
  refine SeqO.done (NoPanic.normal ?_)
  have hlt := hB4.lt
  go_wp2
  refine bodyPost_ret (results_cell_tmp_row rfl _ _ w.heap.size 37 #[.int .i64 rp, .int .i64 rd, .slice a5 rx.length c5, .slice p5 ry.length d5] _ rfl (kr5.b4.store _ _ _ _) Try.underlying37 rfl (by kernel_rfl)) rfl ?_
  rw [HRR.out, ← HQ.out]
  refine ⟨_, _, rfl, ?_, Below.set4 hB5.bel (Nat.le_refl _) _ _ _ _⟩
  exact ((((o5.storeBelow (by show w.heap.size < _; omega) _).storeBelow (by show w.heap.size < _; omega) _).storeBelow (by show w.heap.size < _; omega) _).storeBelow (by show w.heap.size < _; omega) _).mono (by omega)
end Go.Proofs.Ytgmgpcaahanmiaa
namespace Go.Proofs.Ytgmgpcaahanmiaa
open Go.RowKit
attribute [local go_sem ↓] Go.wp_at_zero Go.wp_at_succ
theorem implSC_any (q r : Int) (w : World) : Calls Try.prog 32 #[.int .i64 q, .int .i64 r] w (ResC w (simRes q r)) := by
 obtain ⟨W0, hHW⟩ : ∃ z, z = w.alloc (.cells #[.int .i64 0, .int .i64 0, .slice none 0 0, .slice none 0 0] 37) := ⟨_, rfl⟩
 have b0 : Below w.heap.size w W0 := by rw [hHW]; exact (Below.refl _ _).alloc (Nat.le_refl _) _
 have kr : Blk W0 w.heap.size 37 #[.int .i64 0, .int .i64 0, .slice none 0 0, .slice none 0 0] := by rw [hHW]; exact Blk.new _ _ _ rfl
 have sk0 : w.heap.size < W0.heap.size := kr.lt
 have HW := Lib.hid hHW
 clear hHW
 generalize hR : simRes q r = rr
 cases hk : (isField q && colsOk q r) with
 | false =>
  have HN := Lib.hid (show rr = (0, 0, [], [], 2) by rw [← hR, simRes, hk]; rfl)
  have hV := checked_no q r W0 hk
  have HV := hide hV
  clear hV hk hR
  go_enter Try.func32, Try.ntmps32
  go_upto_region 1 with fail
  rw [← HW.out]
  go_wp2_with fail
  refine (unhide HV).mono ?_
  rintro e w1 ⟨rfl, b1⟩
  obtain ⟨W1, hHF⟩ : ∃ z, z = w1.alloc (.cells #[.int .i64 0, .int .i64 0, .slice none 0 0] 34) := ⟨_, rfl⟩
  have bF : Below w1.heap.size w1 W1 := by rw [hHF]; exact (Below.refl _ _).alloc (Nat.le_refl _) _
  have kF : Blk W1 w1.heap.size 34 #[.int .i64 0, .int .i64 0, .slice none 0 0] := by rw [hHF]; exact Blk.new _ _ _ rfl
  have HF := Lib.hid hHF
  clear hHF
  have c1x := Below.chain b1 bF
  have kr2 := kr.below c1x kr.lt
  go_upto_region 2 with fail
  rw [← HF.out]
  have r0 := kr2.cell 0
  have r1 := kr2.cell 1
  have r2 := kr2.cell 2
  have r3 := kr2.cell 3
  have s0 := kr2.frozen 0
  have s1 := kr2.frozen 1
  have s2 := kr2.frozen 2
  have s3 := kr2.frozen 3
  go_wp2
  refine bodyPost_ret (results_cell_tmp_row rfl _ _ w.heap.size 37 #[.int .i64 0, .int .i64 0, .slice none 0 0, .slice none 0 0] _ rfl (kr2.b4.store _ _ _ _) Try.underlying37 rfl (by kernel_rfl)) rfl ?_
  rw [HN.out]
  exact ⟨_, _, rfl, OwnC.nil _ _, Below.set4 (b0.trans (c1x.mono (Nat.le_of_lt sk0))) (Nat.le_refl _) _ _ _ _⟩
 | true =>
  obtain ⟨hf, hc⟩ : isField q = true ∧ colsOk q r = true := by rw [Bool.and_eq_true] at hk; exact hk
  obtain ⟨hr2, hr4, hC3, hC32, hCM⟩ := hcols_bd hf hc
  have hG := fdOf_good hf
  have ok := hG.ok
  obtain ⟨n2, n64⟩ := ok.n_bd
  have hV := checked_yes q r W0 hf hc
  have hRR : rr = mkC (fdOf q) (form (fdOf q) (cols (hcols q r) r.toNat) (hcols q r).length) := by rw [← hR, simRes, hk]; rfl
  have hr0 := (colsOk_true hc).1
  obtain ⟨R, rfl⟩ := Int.eq_ofNat_of_zero_le (show 0 ≤ r by omega)
  clear hk hc hR hr0 hf
  rw [Int.toNat_natCast] at *
  generalize fdOf q = F at *
  generalize hcols q R = C at *
  have hl : ∀ xs ∈ C, xs.length = R := fun xs h => (hCM xs h).1
  have hT := fun a c W (h : Rd W a F.poly) => tablesOf_any F a c W h ok
  have hCO := fun a d W (h : RdS W a C) => columnsOf_any a d C R W h hl (by omega) (by omega)
  have hMM := cols_Mat ok hCM
  have hMl := cols_len C R
  obtain ⟨M, hM⟩ : ∃ M, M = cols C R := ⟨_, rfl⟩
  rw [← hM] at hCO hMM hMl hRR
  have hNS := fun tv a d W hT (hy : RdS W a M) => nullSpace_any F tv a d M C.length W hT hG hy (by omega) hMM (by omega) (by omega)
  obtain ⟨N, hN⟩ : ∃ N, N = form F M C.length := ⟨_, rfl⟩
  have hCD := fun a c b d W (hx : Rd W a F.poly) (hy : RdS W b M) => codeOf_all F a c b d M C.length W hx hG hy hMM
  rw [← hN] at hCD hRR
  have HT := hide hT
  have HCO := hide hCO
  have HNS := hide hNS
  have HCD := hide hCD
  have HRR := Lib.hid hRR
  have HV := hide hV
  clear hT hCO hNS hCD hRR hV hMM hM hN hl hCM hMl
  go_enter Try.func32, Try.ntmps32
  go_upto_region 1 with fail
  rw [← HW.out]
  go_wp2_with fail
  refine (unhide HV).mono ?_
  rintro e w1 ⟨v1, u1, rfl, o1, q1, b1⟩
  obtain ⟨a1, c1, rfl, _, _⟩ := o1.form
  obtain ⟨au, cu, rfl, _⟩ := q1.form
  obtain ⟨W1, hHF⟩ : ∃ z, z = w1.alloc (.cells #[.int .i64 F.p, .int .i64 F.k, .slice a1 F.poly.length c1] 34) := ⟨_, rfl⟩
  have bF : Below w1.heap.size w1 W1 := by rw [hHF]; exact (Below.refl _ _).alloc (Nat.le_refl _) _
  have kF : Blk W1 w1.heap.size 34 #[.int .i64 F.p, .int .i64 F.k, .slice a1 F.poly.length c1] := by rw [hHF]; exact Blk.new _ _ _ rfl
  have HF := Lib.hid hHF
  clear hHF
  have c1x := Below.chain b1 bF
  have z1 := b1.size
  have zF := kF.lt
  have hH0 : HamH w W0.heap.size w1.heap.size F a1 c1 au cu C W1 := ⟨b0.trans (c1x.mono (Nat.le_of_lt sk0)), ⟨sk0, c1x.size, zF, by omega⟩, kF, o1.below bF (Nat.le_refl _), q1.below bF (Nat.le_refl _), (kr.below c1x kr.lt).b4⟩
  have BX := hide (show ∀ W, HamH w W0.heap.size w1.heap.size F a1 c1 au cu C W → (HamH w W0.heap.size w1.heap.size F a1 c1 au cu C W ∧ W.cell? ⟨w1.heap.size, 0, none⟩ = some (.int .i64 F.p) ∧ W.cell? ⟨w1.heap.size, 1, none⟩ = some (.int .i64 F.k) ∧ W.cell? ⟨w1.heap.size, 2, none⟩ = some (.slice a1 F.poly.length c1)) from fun W h => ⟨h, h.kF.cell 0, h.kF.cell 1, h.kF.cell 2⟩)
  have hH1 := hH0.next (Below.refl _ _).drew
  clear b1 bF kF o1 q1 c1x
  go_upto_region 4 with fail
  rw [← HF.out]
  refine wp_region_noPanic ?_
  refine wp_region_ord (S := (fun W => HamH w W0.heap.size w1.heap.size F a1 c1 au cu C W ∧ W.cell? ⟨w1.heap.size, 0, none⟩ = some (.int .i64 F.p) ∧ W.cell? ⟨w1.heap.size, 1, none⟩ = some (.int .i64 F.k) ∧ W.cell? ⟨w1.heap.size, 2, none⟩ = some (.slice a1 F.poly.length c1))) [(true, 0), (true, 1), (true, 2), (false, 3), (false, 4), (true, 5), (true, 6), (false, 7), (true, 8)] (by kernel_rfl) (by kernel_rfl) (by kernel_rfl) rfl (fun _ _ _ _ _ h => h) ?_ (fun hHeld => ?_)
  · exact (unhide BX) _ hH1
  refine SeqO.take (by rfl) (v := ?hv10) (by rfl) ?hy10 ?hr10
  case hy10 =>
   intro w hSw
   try dsimp only at hSw
   go_simp
   try (with_reducible rfl)
  try simp only [Act.put, List.setIfInBounds_toArray, List.set_cons_zero, List.set_cons_succ]
  refine SeqO.take (by rfl) (v := ?hv11) (by rfl) ?hy11 ?hr11
  case hy11 =>
   intro w hSw
   try dsimp only at hSw
   go_simp
   try (with_reducible rfl)
  try simp only [Act.put, List.setIfInBounds_toArray, List.set_cons_zero, List.set_cons_succ]
  refine SeqO.take (by rfl) (v := ?hv12) (by rfl) ?hy12 ?hr12
  case hy12 =>
   intro w hSw
   try dsimp only at hSw
   go_simp
   try (with_reducible rfl)
  try simp only [Act.put, List.setIfInBounds_toArray, List.set_cons_zero, List.set_cons_succ]
  refine SeqO.call (by rfl) (fun K hK => ?_)
  go_simp
  refine (unhide HCO _ _ _ hH1.co.rd).mono ?_
  rintro e w3 ⟨u, rfl, o3, b3⟩
  obtain ⟨ay, cy, rfl, r4⟩ := o3.form
  have hB4 := hH1.next b3
  go_wp2_with fail
  refine hK.out _ _ ?_ (fun hHeld => ?_)
  · exact (unhide BX) _ hB4
  clear hK K
  try simp only [Act.put, List.setIfInBounds_toArray, List.set_cons_zero, List.set_cons_succ]
  refine SeqO.call (by rfl) (fun K hK => ?_)
  go_simp
  refine (unhide HCD _ _ ay cy _ hB4.po.rd r4).mono ?_
  rintro e w5 ⟨v5, u5, rfl, o5, b5⟩
  have hB5 := hB4.next b5
  obtain ⟨qq, hqq⟩ : ∃ qq, qq = mkC F N := ⟨_, rfl⟩
  rw [← hqq] at o5 ⊢
  obtain ⟨rp, rd, rx, ry, rz⟩ := qq
  simp only [] at o5 ⊢
  obtain ⟨a5, c5, p5, d5, rfl, rfl, _, _⟩ := o5.form
  have HQ := Lib.hid hqq
  clear hqq
  obtain ⟨x0, x1, x2, x3, kr5⟩ := hB5.kr
  have r0 := kr5.cell 0
  have r1 := kr5.cell 1
  have r2 := kr5.cell 2
  have r3' := kr5.cell 3
  have s0 := kr5.frozen 0
  have s1 := kr5.frozen 1
  have s2 := kr5.frozen 2
  have s3 := kr5.frozen 3
  have hB6 := hB5.store
  have z4 := b5.size
  go_wp2_with fail
  refine hK.out _ _ ?_ (fun hHeld => ?_)
  · exact (unhide BX) _ hB5
  clear hK K
  try simp only [Act.put, List.setIfInBounds_toArray, List.set_cons_zero, List.set_cons_succ]
  refine SeqO.take (by rfl) (v := ?hv13) (by rfl) ?hy13 ?hr13
  case hy13 =>
   intro w hSw
   try dsimp only at hSw
   go_simp
   try (with_reducible rfl)
  try simp only [Act.put, List.setIfInBounds_toArray, List.set_cons_zero, List.set_cons_succ]
  refine SeqO.take (by rfl) (v := ?hv14) (by rfl) ?hy14 ?hr14
  case hy14 =>
   intro w hSw
   try dsimp only at hSw
   go_simp
   try (with_reducible rfl)
  try simp only [Act.put, List.setIfInBounds_toArray, List.set_cons_zero, List.set_cons_succ]
  refine SeqO.call (by rfl) (fun K hK => ?_)
  go_simp
  refine hK.out _ _ ?_ (fun hHeld => ?_)
  · exact (unhide BX) _ (hB6 _ _ _ _)
  clear hK K
  try simp only [Act.put, List.setIfInBounds_toArray, List.set_cons_zero, List.set_cons_succ]
  refine SeqO.take (by rfl) (v := ?hv15) (by rfl) ?hy15 ?hr15
  case hy15 =>
   intro w hSw
   try dsimp only at hSw
   go_simp
   try (with_reducible rfl)
  try simp only [Act.put, List.setIfInBounds_toArray, List.set_cons_zero, List.set_cons_succ]
  refine SeqO.done (NoPanic.normal ?_)
  have hlt := hB4.lt
  go_wp2
  refine bodyPost_ret (results_cell_tmp_row rfl _ _ w.heap.size 37 #[.int .i64 rp, .int .i64 rd, .slice a5 rx.length c5, .slice p5 ry.length d5] _ rfl (kr5.b4.store _ _ _ _) Try.underlying37 rfl (by kernel_rfl)) rfl ?_
  rw [HRR.out, ← HQ.out]
  refine ⟨_, _, rfl, ?_, Below.set4 hB5.bel (Nat.le_refl _) _ _ _ _⟩
  exact ((((o5.storeBelow (by show w.heap.size < _; omega) _).storeBelow (by show w.heap.size < _; omega) _).storeBelow (by show w.heap.size < _; omega) _).storeBelow (by show w.heap.size < _; omega) _).mono (by omega)
end Go.Proofs.Ytgmgpcaahanmiaa
