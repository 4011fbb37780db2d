/-
  Plain: the rows of a shortened code. Printed by gen_sho.py.
-/
import Derived.BigQuiet
import Derived.BigRegion
import Derived.ChangeOld
import Derived.Deep.DeepCutAuto
import Derived.Deep.DeepMust
import Derived.Deep.DrawnRows
import Derived.Deep.Draws
import Derived.Deep.OwnRows
import Derived.Deep.QuietTactic
import Derived.Deep.RegionHeld3
import Derived.Deep.Slices
import Derived.IntWalk
import Derived.Laws.Rows
import Derived.Lib.AppendZeros
import Derived.Lib.Hide
import Derived.Maps.AppendAt
import Derived.OpenShut
import Derived.OwnWalk
import Derived.ProofKit
import Derived.ShutString
import Derived.StillTailTactics
import Derived.Test.YtcblhjhabhjbkaaProg
import Derived.Test.YtcblhjhabhjbkaaRows
import Derived.WalkKit
import Derived.WalkLawsBesides
import Derived.WalkSpells
import Derived.Test.YtcblhjhabhjbkaaZ5
import Derived.Test.YtcblhjhabhjbkaaZ7
import Derived.Test.YtcblhjhabhjbkaaZ8
import Derived.Test.YtcblhjhabhjbkaaZ52
set_option linter.unusedVariables false
set_option linter.unusedSimpArgs false
namespace Go.Proofs.Ytcblhjhabhjbkaa
open Go.RowKit
attribute [local go_sem ↓] Go.wp_at_zero Go.wp_at_succ
/-- Row i with its place j brought to 0 by row k. -/
def shoRow (F : FD) (m : List (List Int)) (j k i : Nat) : List Int := if nth (nthL m i) j = 0 then nthL m i else less F (nthL m i) (nthL m k) (F.mul (nth (nthL m i) j) (F.inv (nth (nthL m k) j)))
def shoTo (F : FD) (m : List (List Int)) (j k : Nat) : Nat → List (List Int)
  | 0 => []
  | i + 1 => if i = k then shoTo F m j k i else shoTo F m j k i ++ [wout (shoRow F m j k i) j]
def shoM (F : FD) (m : List (List Int)) (j : Nat) : List (List Int) := shoTo F m j (pivAt m j 0) m.length
theorem shoRow_el {F : FD} (ok : F.Ok) {n : Nat} {m : List (List Int)} (h : F.Mat n m) {j k i : Nat} (hi : i < m.length) : (shoRow F m j k i).length = n ∧ ∀ x ∈ shoRow F m j k i, 0 ≤ x ∧ x < F.n := by
  rw [shoRow]
  split
  · exact Mat_nth h hi
  · exact ⟨by rw [less_len, (Mat_nth h hi).1], less_el ok _ _ _⟩
theorem shoTo_len (F : FD) (m : List (List Int)) (j k i : Nat) : (shoTo F m j k i).length ≤ i := by
  induction i with
  | zero => simp [shoTo]
  | succ i ih =>
    rw [shoTo]
    split
    · omega
    · rw [List.length_append, List.length_singleton]; omega
theorem shoTo_Mat {F : FD} (ok : F.Ok) {n : Nat} {m : List (List Int)} (h : F.Mat n m) {j k : Nat} (hj : j < n) {i : Nat} (hi : i ≤ m.length) : F.Mat (n - 1) (shoTo F m j k i) := by
  induction i with
  | zero => intro x hx; simp [shoTo] at hx
  | succ i ih =>
    rw [shoTo]
    split
    · exact ih (by omega)
    · intro x hx
      rw [List.mem_append, List.mem_singleton] at hx
      rcases hx with hx | rfl
      · exact ih (by omega) x hx
      · obtain ⟨h1, h2⟩ := shoRow_el ok h (j := j) (k := k) (show i < m.length by omega)
        refine ⟨by rw [wout_len (by omega), h1], fun y hy => ?_⟩
        rw [wout, List.mem_append] at hy
        rcases hy with hy | hy
        · exact h2 y (List.mem_of_mem_take hy)
        · exact h2 y (List.mem_of_mem_drop hy)
theorem Own.cap_ {w : World} {B n c : Nat} {a : Option Addr} {xs : List Int} (h : Own w B (.slice a n c) xs) : n ≤ c := by
  obtain ⟨_, h2⟩ := h
  rcases h2.2 with ⟨e3, _⟩ | ⟨g3, cap3, cur3, e3, _, _, h4, _⟩
  · injection e3 with _ e4 _; omega
  · injection e3 with _ e4 e5; omega
end Go.Proofs.Ytcblhjhabhjbkaa

/-
  Walks: spec.ShortenCode. Printed by gen_sho.py.
-/
namespace Go.Proofs.Ytcblhjhabhjbkaa
open Go.RowKit
attribute [local go_sem ↓] Go.wp_at_zero Go.wp_at_succ
noncomputable def shoRes (p d : Int) (xs : List Int) (m : List (List Int)) (j : Int) : Int × Int × List Int × List (List Int) × Int := if plcR p d xs m j = 0 then mkC (fdR p d xs) (form (fdR p d xs) (shoM (fdR p d xs) m j.toNat) ((nthL m 0).length - 1)) else (0, 0, [], [], plcR p d xs m j)
set_option maxRecDepth 100000 in
set_option maxHeartbeats 6400000 in
theorem specSH_any (p d : Int) (a : Option Addr) (c : Nat) (xs : List Int) (ra : Option Addr) (rc : Nat) (m : List (List Int)) (j : Int) (w : World) (hx : Rd w a xs) (hm : RdS w ra m) (hcap : CapS w ra m) : Calls Try.prog 27 #[.agg #[.int .i64 p, .int .i64 d, .slice a xs.length c, .slice ra m.length rc], .int .i64 j] w (SpC w w.heap.size (shoRes p d xs m j)) := by
  have hml := hm.len
  generalize hR : shoRes p d xs m j = r
  obtain ⟨W0, hHW⟩ : ∃ z, z = (w.alloc (.cells #[.int .i64 p, .int .i64 d, .slice a xs.length c, .slice ra m.length rc] 31)).alloc (.cells #[.int .i64 0, .int .i64 0, .slice none 0 0, .slice none 0 0] 31) := ⟨_, rfl⟩
  have b0 : Below w.heap.size w W0 := by rw [hHW]; exact ((Below.refl _ _).alloc (Nat.le_refl _) _).alloc (by simp) _
  have k0 : Blk W0 w.heap.size 31 #[.int .i64 p, .int .i64 d, .slice a xs.length c, .slice ra m.length rc] := by rw [hHW]; exact (Blk.new _ _ _ rfl).alloc _
  have kr : Blk W0 (w.heap.size + 1) 31 #[.int .i64 0, .int .i64 0, .slice none 0 0, .slice none 0 0] := by rw [hHW]; exact Blk.new _ _ _ (by simp)
  have sk0 : w.heap.size + 1 < W0.heap.size := kr.lt
  have sk1 : w.heap.size ≤ W0.heap.size := by omega
  have HW := Lib.hid hHW
  clear hHW
  have hC0 : PC W0 w.heap.size p d a c xs ra rc m := ⟨⟨k0.cell 0, k0.cell 1, k0.cell 2, hx.below b0⟩, k0.cell 3, hm.below b0⟩
  have hV := l18Place_any w.heap.size p d a c xs ra rc m j W0 hC0
  by_cases hq : plcR p d xs m j = 0
  ·
    obtain ⟨hk, k, rfl, hkn, hne⟩ := plc_zero hq
    obtain ⟨F, n, rfl, rfl, rfl, hC⟩ := okC_gc hk
    have ok := hC.good.ok
    obtain ⟨n2, n64⟩ := ok.n_bd
    have hm1 := hC.m1
    have hm0 : 0 < m.length := by omega
    have hm8 := hC.m8
    have hn1 := hC.n1
    have hn32 := hC.n32
    rw [hq] at hV
    have HV := hide hV
    have hRR : r = mkC F (form F (shoM F m k) (n - 1)) := by rw [← hR, shoRes, if_pos hq, fdR_eq, hC.hn, Int.toNat_natCast]
    rw [hC.hn] at hkn hne
    clear hV hk hR hq
    obtain ⟨gb, ob, rfl, hgb, hcc⟩ := hC0.2.2.at_ hm0
    have hcc2 : ∀ i, i < m.length → ∃ g2 o2 ck, W0.cell? ⟨gb, ob + i, none⟩ = some (.slice (some ⟨g2, o2, none⟩) n ck) ∧ g2 < W0.heap.size ∧ Rd W0 (some ⟨g2, o2, none⟩) (nthL m i) ∧ n ≤ ck ∧ W0.cell? ⟨g2, o2 + k, none⟩ = some (.int .i64 (nth (nthL m i) k)) := fun i hi => by
      obtain ⟨ak, ck, h1, h2⟩ := hcc i hi
      rw [(Mat_nth hC.mat hi).1] at h1
      obtain ⟨g2, o2, rfl, h3, h4⟩ := h2.at_ (by rw [(Mat_nth hC.mat hi).1]; omega)
      exact ⟨g2, o2, ck, h1, h3, h2, (hcap.below hm b0) gb ob rfl i hi _ _ _ h1, h4 k (by rw [(Mat_nth hC.mat hi).1]; exact hkn)⟩
    have hPF := hC0.1.pf
    have hG := hC.good
    have hnl := fun i (hi : i < m.length) => Mat_nth hC.mat hi
    have hre := fun K i (hi : i < m.length) => shoRow_el ok hC.mat (j := k) (k := K) hi
    have hMM := fun K => shoTo_Mat ok hC.mat hkn (k := K) (Nat.le_refl m.length)
    have hFO := fun K b d W (h : Below W0.heap.size W0 W) (h0 : 0 < (shoTo F m k K m.length).length) (hy : RdS W b (shoTo F m k K m.length)) => l17Form_any w.heap.size F b d (shoTo F m k K m.length) (n - 1) W (hPF.below h) hC.good hy h0 (hMM K)
    have HFO := hide hFO
    have HCC := hide hcc2
    have HPF := hide hPF
    have HNL := hide hnl
    have HRE := hide hre
    have HG := hide hG
    have HRR := Lib.hid hRR
    have KB := hide (show ∀ W, Below W0.heap.size W0 W → Blk W w.heap.size 31 #[.int .i64 F.p, .int .i64 F.k, .slice a F.poly.length c, .slice (some ⟨gb, ob, none⟩) m.length rc] from fun W h => k0.below h k0.lt)
    clear hRR hC hC0 hcc hcc2 hPF hMM hFO hnl hG hre
    have f0 := k0.cell 0
    have f1 := k0.cell 1
    have f2 := k0.cell 2
    have f3 := k0.cell 3
    go_enter Try.func27, Try.ntmps27
    go_upto_region 1 with fail
    rw [← HW.out]
    go_wp2_with fail
    refine (unhide HV).mono ?_
    rintro e w1 ⟨rfl, b1⟩
    have k1 := k0.below b1 k0.lt
    have kr1 := kr.below b1 kr.lt
    clear f0 f1 f2 f3
    have f0 := k1.cell 0
    have f1 := k1.cell 1
    have f2 := k1.cell 2
    have f3 := k1.cell 3
    have bb1 := b0.trans (b1.mono sk1)
    have z1 := b1.size
    go_wp2_with fail
    go_loopw [7] (fun kv wr => ∃ K : Nat, kv = .int .i64 K ∧ K ≤ m.length ∧ Hid (∀ i, 0 ≤ i → i < K → nth (nthL m i) k = 0) ∧ w1 = wr) (fun kv _ => m.length - (intOf kv).toNat)
    case atStart => exact ⟨0, rfl, Nat.zero_le _, fun i _ h => absurd h (Nat.not_lt_zero i), rfl⟩
    case round =>
      obtain ⟨K, rfl, hK, hz, rfl⟩ := hrel
      by_cases hKl : K < m.length
      ·
        have hkb : decide ((K : Int) < (m.length : Int)) = true := by rw [decide_eq_true_eq]; omega
        have hkb2 : decide (K < m.length) = true := by rw [decide_eq_true_eq]; omega
        obtain ⟨gK, oK, cK, hK1, hgK, hKr, hKc, hKx⟩ := unhide HCC K hKl
        have hK1 := (b1.cell (p := ⟨gb, ob + K, none⟩) hgb).trans hK1
        have hKx := (b1.cell (p := ⟨gK, oK + k, none⟩) hgK).trans hKx
        have HKR := hide hKr
        obtain ⟨x, hx⟩ : ∃ x, x = nth (nthL m K) k := ⟨_, rfl⟩
        rw [← hx] at hKx
        have HX := Lib.hid hx
        clear hKr hx
        by_cases hx0 : x = 0
        ·
          have hbx : (x == 0) = true := by rw [hx0]; rfl
          have HX0 := Lib.hid hx0
          clear hx0
          go_wp2_with fail
          go_roundw
          case rel =>
            refine ⟨K + 1, by go_num, by omega, fun i h1 h2 => ?_, trivial⟩
            by_cases e : i = K
            · rw [e, ← HX.out, HX0.out]
            · exact hz.out i h1 (by omega)
          case measure => simp only [intOf]; omega
        ·
          have hbx : (x == 0) = false := by rw [beq_eq_false_iff_ne]; exact hx0
          have hpv : pivAt m k 0 = K := pivAt_hit (Nat.zero_le K) hKl (by rw [← HX.out]; exact hx0) hz.out
          have hxr := (unhide HNL K hKl).2 x (by rw [HX.out]; exact nth_mem (by rw [(unhide HNL K hKl).1]; exact hkn))
          have hx1 : 1 ≤ x := by omega
          have hxn : x < F.n := hxr.2
          have HIV := hide (fun W (h : Below W0.heap.size W0 W) => l03Inverse_any w.heap.size F x W ((unhide HPF).below h) (unhide HG) hx1 hxn)
          have hivb := inv_spec (unhide HG) hx1 hxn
          have hiv0 : 0 ≤ F.inv x := by omega
          have hivn : F.inv x < F.n := hivb.2.2.1
          clear hz hx0 hxr hivb
          have HPV := Lib.hid hpv
          clear hpv
          go_wp2_with fail
          go_loopw [8, 9] (fun v iv wr => ∃ i : Nat, iv = .int .i64 i ∧ i ≤ m.length ∧ Hid (OwnS wr w1.heap.size v (shoTo F m k K i)) ∧ Below w1.heap.size w1 wr) (fun _ iv _ => m.length - (intOf iv).toNat)
          case atStart => exact ⟨0, rfl, Nat.zero_le _, OwnS.empty w1 (Nat.le_refl _), (Below.refl _ _).alloc (Nat.le_refl _) _⟩
          case round =>
            obtain ⟨i, rfl, hi, ho, hb⟩ := hrel
            have hsz := hb.size
            have co := Below.chain b1 hb
            have c3 := (unhide KB wr co).cell 3
            by_cases hil : i < m.length
            ·
              have hib : decide ((i : Int) < (m.length : Int)) = true := by rw [decide_eq_true_eq]; omega
              by_cases hiK : i = K
              ·
                have hst : shoTo F m k K (i + 1) = shoTo F m k K i := by rw [shoTo, if_pos hiK]
                have hbe : ((i : Int) == (K : Int)) = true := by rw [hiK]; simp
                have hbe2 : (i == K) = true := by rw [hiK]; simp
                have HST := Lib.hid hst
                have HIK := Lib.hid hiK
                clear hst hiK
                go_wp2_with fail
                go_roundw
                case rel => exact ⟨i + 1, by go_num, by omega, by show OwnS _ _ _ _; rw [HST.out]; exact ho.out, hb⟩
                case measure => simp only [intOf]; omega
              ·
                have hst : shoTo F m k K (i + 1) = shoTo F m k K i ++ [wout (shoRow F m k K i) k] := by rw [shoTo, if_neg hiK]
                have hbe : ((i : Int) == (K : Int)) = false := by rw [beq_eq_false_iff_ne]; omega
                have hbe2 : (i == K) = false := by rw [beq_eq_false_iff_ne]; exact hiK
                have hsl := shoTo_len F m k K i
                obtain ⟨gi, oi, ci, hi1, hgi, hir, hic, hix⟩ := unhide HCC i hil
                have hi1 := (co.cell (p := ⟨gb, ob + i, none⟩) hgb).trans hi1
                have hix := (co.cell (p := ⟨gi, oi + k, none⟩) hgi).trans hix
                have hnl := unhide HNL i hil
                have hre := unhide HRE K i hil
                obtain ⟨y, hy⟩ : ∃ y, y = nth (nthL m i) k := ⟨_, rfl⟩
                rw [← hy] at hix
                have hwl := wout_len (row := shoRow F m k K i) (j := k) (by omega)
                rw [hre.1] at hwl
                have hrow : shoRow F m k K i = if y = 0 then nthL m i else less F (nthL m i) (nthL m K) (F.mul y (F.inv (nth (nthL m K) k))) := by rw [shoRow, hy]
                by_cases hy0 : y = 0
                ·
                  have hyb : (y != 0) = false := by rw [hy0]; rfl
                  rw [if_pos hy0] at hrow
                  have hlw := l18Without_any (some ⟨gi, oi, none⟩) ci (shoRow F m k K i) k wr (by rw [hrow]; exact hir.below co) (by omega) (by omega) (by omega)
                  rw [hre.1] at hlw
                  obtain ⟨nw, hnw⟩ : ∃ nw, nw = wout (shoRow F m k K i) k := ⟨_, rfl⟩
                  rw [← hnw] at hlw hst
                  have HLW := hide hlw
                  have HST := Lib.hid hst
                  have hsl2 : (shoTo F m k K i).length + 1 ≤ 1073741824 := by omega
                  clear hlw hst hnw hsl hre hwl
                  have HY := Lib.hid hy
                  have HY0 := Lib.hid hy0
                  clear hrow hy hy0 hir hnl hiK
                  go_wp2_with fail
                  refine (unhide HLW).mono ?_
                  rintro e w6 ⟨v6, rfl, o6, b6⟩
                  have b06 := b6
                  obtain ⟨a6, c6, rfl, _, _⟩ := o6.form
                  have hH := ho.out.toH.belw b06 (Nat.le_refl _)
                  have hb6 := hb.trans (b06.mono hsz)
                  have z6 := b06.size
                  have o6 := o6.mono (B' := wr.heap.size) (Nat.le_refl _)
                  go_wp2_with (at_builtin; refine wpList_append_row rfl (.tmp 80) (.tmp 84) rfl (v := u8) rfl (hH.belw ((Below.refl _ _).alloc (Nat.le_refl _) _) z6) _ rfl ((Blk.new w6 22 #[.slice a6 nw.length c6] rfl).cell 0) (o6.alloc _) hsz (by simp; omega) hsl2 ?_; intro v7 w7 o7 g7 _)
                  go_roundw
                  case rel =>
                    refine ⟨i + 1, by go_num, by omega, ?_, Below.stepS (hb6.alloc (by omega) _) g7 (hH.belw ((Below.refl _ _).alloc (Nat.le_refl _) _) z6).own (Nat.le_refl _) (by simp; omega)⟩
                    show OwnS _ _ _ _
                    rw [HST.out]
                    exact o7
                  case measure => simp only [intOf]; omega
                ·
                  have hyb : (y != 0) = true := by rw [bne_iff_ne]; exact hy0
                  rw [if_neg hy0] at hrow
                  have hyr := hnl.2 y (by rw [hy]; exact nth_mem (by rw [hnl.1]; exact hkn))
                  rw [← HX.out] at hrow
                  obtain ⟨v, hv⟩ : ∃ v, v = F.inv x := ⟨_, rfl⟩
                  rw [← hv] at hrow hiv0 hivn HIV
                  have hmb := mul_bd ok y v
                  have hmu := fun W (h : Below W0.heap.size W0 W) => l03Mul_any w.heap.size F y v W ((unhide HPF).below h) ok hyr.1 (by omega) hiv0 (by omega)
                  change ∀ W, _ → Calls _ _ _ W (fun e w' => e = .returned (.int .i64 (F.mul y v)) ∧ Below W.heap.size W w') at hmu
                  obtain ⟨s, hs⟩ : ∃ s, s = F.mul y v := ⟨_, rfl⟩
                  rw [← hs] at hrow hmu hmb
                  have hnK := unhide HNL K hKl
                  have hle := fun W (h : Below W0.heap.size W0 W) => l17Less_any w.heap.size F (some ⟨gi, oi, none⟩) (some ⟨gK, oK, none⟩) ci cK (nthL m i) (nthL m K) s W ((unhide HPF).below h) ok (hir.below h) ((unhide HKR).below h) (by rw [hnK.1, hnl.1]) hmb.1 hmb.2 hnl.2 hnK.2
                  rw [hnK.1, hnl.1, ← hrow] at hle
                  have hlw := fun aa cc W (hr : Rd W aa (shoRow F m k K i)) (hc : n ≤ cc) => l18Without_any aa cc (shoRow F m k K i) k W hr (by omega) (by omega) (by omega)
                  have hre2 := hre.1
                  rw [hre.1] at hlw
                  obtain ⟨nw, hnw⟩ : ∃ nw, nw = wout (shoRow F m k K i) k := ⟨_, rfl⟩
                  rw [← hnw] at hlw hst
                  have HLW := hide hlw
                  have HST := Lib.hid hst
                  have hsl2 : (shoTo F m k K i).length + 1 ≤ 1073741824 := by omega
                  clear hlw hst hnw hsl hre hwl
                  obtain ⟨sr, hsr⟩ : ∃ sr, sr = shoRow F m k K i := ⟨_, rfl⟩
                  rw [← hsr] at hle hre2 HLW
                  have HLE := hide hle
                  have HMU := hide hmu
                  have HRE2 := Lib.hid hre2
                  have HY := Lib.hid hy
                  have BX := hide (show ∀ W, Below wr.heap.size wr W → (Below wr.heap.size wr W ∧ W.cell? ⟨w.heap.size, 3, none⟩ = some (.slice (some ⟨gb, ob, none⟩) m.length rc) ∧ W.cell? ⟨gb, ob + K, none⟩ = some (.slice (some ⟨gK, oK, none⟩) n cK) ∧ W.cell? ⟨gi, oi + k, none⟩ = some (.int .i64 y) ∧ W.cell? ⟨gK, oK + k, none⟩ = some (.int .i64 x)) from fun W h => by
                    have q := Below.chain hb h
                    have z := Nat.lt_of_lt_of_le hgb b1.size
                    refine ⟨h, (unhide KB W (Below.chain co h)).cell 3, (q.cell (p := ⟨gb, ob + K, none⟩) z).trans hK1, (h.cell (p := ⟨gi, oi + k, none⟩) (Nat.lt_of_lt_of_le hgi co.size)).trans hix, (q.cell (p := ⟨gK, oK + k, none⟩) (Nat.lt_of_lt_of_le hgK b1.size)).trans hKx⟩)
                  clear hrow hy hir hnl hiK hle hmu hs hv hsr hnK hre2 hy0 hyr
                  go_upto_region 14 with fail
                  refine wp_region_noPanic ?_
                  refine wp_region_ord (S := (fun W => Below wr.heap.size wr W ∧ W.cell? ⟨w.heap.size, 3, none⟩ = some (.slice (some ⟨gb, ob, none⟩) m.length rc) ∧ W.cell? ⟨gb, ob + K, none⟩ = some (.slice (some ⟨gK, oK, none⟩) n cK) ∧ W.cell? ⟨gi, oi + k, none⟩ = some (.int .i64 y) ∧ W.cell? ⟨gK, oK + k, none⟩ = some (.int .i64 x))) [(true, 0), (true, 1), (true, 2), (true, 3), (true, 4), (true, 5), (true, 6), (true, 7), (true, 8), (true, 9), (true, 10), (true, 11), (true, 12), (true, 13), (true, 14), (true, 15), (true, 16), (true, 17), (true, 18), (true, 19), (true, 20), (false, 21), (false, 22), (false, 23), (true, 24)] (by kernel_rfl) (by kernel_rfl) (by kernel_rfl) rfl (fun _ _ _ _ _ h => h) ?_ (fun hHeld => ?_)
                  · exact (unhide BX) _ (Below.refl _ _).drew
                  refine SeqO.take (by rfl) (v := ?hv9) (by rfl) ?hy9 ?hr9
                  case hy9 =>
                    intro w hSw
                    try dsimp only at hSw
                    go_simp
                    try (with_reducible rfl)
                  try simp only [Act.put, List.setIfInBounds_toArray, List.set_cons_zero, List.set_cons_succ]
                  refine SeqO.take (by rfl) (v := ?hv10) (by rfl) ?hy10 ?hr10
                  case hy10 =>
                    intro w hSw
                    try dsimp only at hSw
                    go_simp
                    try (with_reducible rfl)
                  try simp only [Act.put, List.setIfInBounds_toArray, List.set_cons_zero, List.set_cons_succ]
                  refine SeqO.take (by rfl) (v := ?hv11) (by rfl) ?hy11 ?hr11
                  case hy11 =>
                    intro w hSw
                    try dsimp only at hSw
                    go_simp
                    try (with_reducible rfl)
                  try simp only [Act.put, List.setIfInBounds_toArray, List.set_cons_zero, List.set_cons_succ]
                  refine SeqO.take (by rfl) (v := ?hv12) (by rfl) ?hy12 ?hr12
                  case hy12 =>
                    intro w hSw
                    try dsimp only at hSw
                    go_simp
                    try (with_reducible rfl)
                  try simp only [Act.put, List.setIfInBounds_toArray, List.set_cons_zero, List.set_cons_succ]
                  refine SeqO.take (by rfl) (v := ?hv13) (by rfl) ?hy13 ?hr13
                  case hy13 =>
                    intro w hSw
                    try dsimp only at hSw
                    go_simp
                    try (with_reducible rfl)
                  try simp only [Act.put, List.setIfInBounds_toArray, List.set_cons_zero, List.set_cons_succ]
                  refine SeqO.take (by rfl) (v := ?hv14) (by rfl) ?hy14 ?hr14
                  case hy14 =>
                    intro w hSw
                    try dsimp only at hSw
                    go_simp
                    try (with_reducible rfl)
                  try simp only [Act.put, List.setIfInBounds_toArray, List.set_cons_zero, List.set_cons_succ]
                  refine SeqO.take (by rfl) (v := ?hv15) (by rfl) ?hy15 ?hr15
                  case hy15 =>
                    intro w hSw
                    try dsimp only at hSw
                    go_simp
                    try (with_reducible rfl)
                  try simp only [Act.put, List.setIfInBounds_toArray, List.set_cons_zero, List.set_cons_succ]
                  refine SeqO.take (by rfl) (v := ?hv16) (by rfl) ?hy16 ?hr16
                  case hy16 =>
                    intro w hSw
                    try dsimp only at hSw
                    go_simp
                    try (with_reducible rfl)
                  try simp only [Act.put, List.setIfInBounds_toArray, List.set_cons_zero, List.set_cons_succ]
                  refine SeqO.take (by rfl) (v := ?hv17) (by rfl) ?hy17 ?hr17
                  case hy17 =>
                    intro w hSw
                    try dsimp only at hSw
                    go_simp
                    try (with_reducible rfl)
                  try simp only [Act.put, List.setIfInBounds_toArray, List.set_cons_zero, List.set_cons_succ]
                  refine SeqO.take (by rfl) (v := ?hv18) (by rfl) ?hy18 ?hr18
                  case hy18 =>
                    intro w hSw
                    try dsimp only at hSw
                    go_simp
                    try (with_reducible rfl)
                  try simp only [Act.put, List.setIfInBounds_toArray, List.set_cons_zero, List.set_cons_succ]
                  refine SeqO.take (by rfl) (v := ?hv19) (by rfl) ?hy19 ?hr19
                  case hy19 =>
                    intro w hSw
                    try dsimp only at hSw
                    go_simp
                    try (with_reducible rfl)
                  try simp only [Act.put, List.setIfInBounds_toArray, List.set_cons_zero, List.set_cons_succ]
                  refine SeqO.take (by rfl) (v := ?hv20) (by rfl) ?hy20 ?hr20
                  case hy20 =>
                    intro w hSw
                    try dsimp only at hSw
                    go_simp
                    try (with_reducible rfl)
                  try simp only [Act.put, List.setIfInBounds_toArray, List.set_cons_zero, List.set_cons_succ]
                  refine SeqO.take (by rfl) (v := ?hv21) (by rfl) ?hy21 ?hr21
                  case hy21 =>
                    intro w hSw
                    try dsimp only at hSw
                    go_simp
                    try (with_reducible rfl)
                  try simp only [Act.put, List.setIfInBounds_toArray, List.set_cons_zero, List.set_cons_succ]
                  refine SeqO.take (by rfl) (v := ?hv22) (by rfl) ?hy22 ?hr22
                  case hy22 =>
                    intro w hSw
                    try dsimp only at hSw
                    go_simp
                    try (with_reducible rfl)
                  try simp only [Act.put, List.setIfInBounds_toArray, List.set_cons_zero, List.set_cons_succ]
                  refine SeqO.take (by rfl) (v := ?hv23) (by rfl) ?hy23 ?hr23
                  case hy23 =>
                    intro w hSw
                    try dsimp only at hSw
                    go_simp
                    try (with_reducible rfl)
                  try simp only [Act.put, List.setIfInBounds_toArray, List.set_cons_zero, List.set_cons_succ]
                  refine SeqO.take (by rfl) (v := ?hv24) (by rfl) ?hy24 ?hr24
                  case hy24 =>
                    intro w hSw
                    try dsimp only at hSw
                    go_simp
                    try (with_reducible rfl)
                  try simp only [Act.put, List.setIfInBounds_toArray, List.set_cons_zero, List.set_cons_succ]
                  refine SeqO.take (by rfl) (v := ?hv25) (by rfl) ?hy25 ?hr25
                  case hy25 =>
                    intro w hSw
                    try dsimp only at hSw
                    go_simp
                    try (with_reducible rfl)
                  try simp only [Act.put, List.setIfInBounds_toArray, List.set_cons_zero, List.set_cons_succ]
                  refine SeqO.take (by rfl) (v := ?hv26) (by rfl) ?hy26 ?hr26
                  case hy26 =>
                    intro w hSw
                    try dsimp only at hSw
                    go_simp
                    try (with_reducible rfl)
                  try simp only [Act.put, List.setIfInBounds_toArray, List.set_cons_zero, List.set_cons_succ]
                  refine SeqO.take (by rfl) (v := ?hv27) (by rfl) ?hy27 ?hr27
                  case hy27 =>
                    intro w hSw
                    try dsimp only at hSw
                    go_simp
                    try (with_reducible rfl)
                  try simp only [Act.put, List.setIfInBounds_toArray, List.set_cons_zero, List.set_cons_succ]
                  refine SeqO.take (by rfl) (v := ?hv28) (by rfl) ?hy28 ?hr28
                  case hy28 =>
                    intro w hSw
                    try dsimp only at hSw
                    go_simp
                    try (with_reducible rfl)
                  try simp only [Act.put, List.setIfInBounds_toArray, List.set_cons_zero, List.set_cons_succ]
                  refine SeqO.take (by rfl) (v := ?hv29) (by rfl) ?hy29 ?hr29
                  case hy29 =>
                    intro w hSw
                    try dsimp only at hSw
                    go_simp
                    try (with_reducible rfl)
                  try simp only [Act.put, List.setIfInBounds_toArray, List.set_cons_zero, List.set_cons_succ]
                  refine SeqO.call (by rfl) (fun K hK => ?_)
                  go_simp
                  refine (unhide HIV _ (Below.chain co (And.left hHeld))).mono ?_
                  rintro e w2 ⟨rfl, b2⟩
                  have hB2 := Below.chain (And.left hHeld) b2
                  go_wp2_with fail
                  refine hK.out _ _ ?_ (fun hHeld => ?_)
                  · exact (unhide BX) _ hB2
                  clear hK K
                  try simp only [Act.put, List.setIfInBounds_toArray, List.set_cons_zero, List.set_cons_succ]
                  refine SeqO.call (by rfl) (fun K hK => ?_)
                  go_simp
                  refine (unhide HMU _ (Below.chain co hB2)).mono ?_
                  rintro e w3 ⟨rfl, b3⟩
                  have hB3 := Below.chain hB2 b3
                  go_wp2_with fail
                  refine hK.out _ _ ?_ (fun hHeld => ?_)
                  · exact (unhide BX) _ hB3
                  clear hK K
                  try simp only [Act.put, List.setIfInBounds_toArray, List.set_cons_zero, List.set_cons_succ]
                  refine SeqO.call (by rfl) (fun K hK => ?_)
                  go_simp
                  refine (unhide HLE _ (Below.chain co hB3)).mono ?_
                  rintro e w5 ⟨v5, rfl, o5, b5⟩
                  have cap5 := o5.form
                  obtain ⟨a5, c5, rfl, r5, _⟩ := cap5
                  have hc5 := Own.cap_ o5
                  rw [HRE2.out] at hc5 ⊢
                  have hB5 := Below.chain hB3 b5
                  go_wp2_with fail
                  refine hK.out _ _ ?_ (fun hHeld => ?_)
                  · exact (unhide BX) _ hB5
                  clear hK K
                  try simp only [Act.put, List.setIfInBounds_toArray, List.set_cons_zero, List.set_cons_succ]
                  refine SeqO.take (by rfl) (v := ?hv30) (by rfl) ?hy30 ?hr30
                  case hy30 =>
                    intro w hSw
                    try dsimp only at hSw
                    go_simp
                    try (with_reducible rfl)
                  try simp only [Act.put, List.setIfInBounds_toArray, List.set_cons_zero, List.set_cons_succ]
                  refine SeqO.done (NoPanic.normal ?_)
                  go_wp2_with fail
                  refine (unhide HLW a5 c5 _ r5 hc5).mono ?_
                  rintro e w6 ⟨v6, rfl, o6, b6⟩
                  have b06 := Below.chain hB5 b6
                  obtain ⟨a6, c6, rfl, _, _⟩ := o6.form
                  have hH := ho.out.toH.belw b06 (Nat.le_refl _)
                  have hb6 := hb.trans (b06.mono hsz)
                  have z6 := b06.size
                  have o6 := o6.mono (B' := wr.heap.size) hB5.size
                  go_wp2_with (at_builtin; refine wpList_append_row rfl (.tmp 80) (.tmp 84) rfl (v := u8) rfl (hH.belw ((Below.refl _ _).alloc (Nat.le_refl _) _) z6) _ rfl ((Blk.new w6 22 #[.slice a6 nw.length c6] rfl).cell 0) (o6.alloc _) hsz (by simp; omega) hsl2 ?_; intro v7 w7 o7 g7 _)
                  go_roundw
                  case rel =>
                    refine ⟨i + 1, by go_num, by omega, ?_, Below.stepS (hb6.alloc (by omega) _) g7 (hH.belw ((Below.refl _ _).alloc (Nat.le_refl _) _) z6).own (Nat.le_refl _) (by simp; omega)⟩
                    show OwnS _ _ _ _
                    rw [HST.out]
                    exact o7
                  case measure => simp only [intOf]; omega
            ·
              have hib : decide ((i : Int) < (m.length : Int)) = false := by rw [decide_eq_false_iff_not]; omega
              have hke : i = m.length := by omega
              have oE := ho.out
              rw [hke] at oE
              have hEl := shoTo_len F m k K m.length
              have HK2 := Lib.hid hke
              have hfo := unhide HFO K
              have hR2 : r = mkC F (form F (shoTo F m k K m.length) (n - 1)) := by rw [HRR.out, shoM, HPV.out]
              obtain ⟨E, hE⟩ : ∃ E, E = shoTo F m k K m.length := ⟨_, rfl⟩
              rw [← hE] at oE hfo hR2 hEl
              obtain ⟨ea, ec, rfl, rE⟩ := oE.form
              have zr := co.size
              have krr := kr.below co kr.lt
              have bbr := b0.trans (co.mono sk1)
              by_cases hE0 : E.length = 0
              ·
                have hbz : ((E.length : Int) == 0) = true := by rw [hE0]; rfl
                have hbz2 : (E.length == 0) = true := by rw [hE0]; rfl
                have hZ : mkC F (form F E (n - 1)) = (0, 0, [], [], 6) := by rw [List.eq_nil_of_length_eq_zero hE0, form_nil]; rfl
                have HN := Lib.hid (show r = (0, 0, [], [], 6) by rw [hR2, hZ])
                clear hE0 hZ oE rE ho hE hfo hR2 hke
                have r0 := krr.cell 0
                have r1 := krr.cell 1
                have r2 := krr.cell 2
                have r3 := krr.cell 3
                have s0 := krr.frozen 0
                have s1 := krr.frozen 1
                have s2 := krr.frozen 2
                have s3 := krr.frozen 3
                go_wp2
                refine bodyPost_ret (results_cell_tmp_row rfl _ _ (w.heap.size + 1) 31 #[.int .i64 0, .int .i64 0, .slice none 0 0, .slice none 0 0] _ rfl (krr.b4.store _ _ _ _) Try.underlying31 rfl (by kernel_rfl)) rfl ?_
                rw [HN.out]
                exact ⟨_, _, rfl, Own.nil _ _, OwnS.nil _ _, Below.set4 bbr (by omega) _ _ _ _⟩
              ·
                have hbz : ((E.length : Int) == 0) = false := by rw [beq_eq_false_iff_ne]; omega
                have hbz2 : (E.length == 0) = false := by rw [beq_eq_false_iff_ne]; omega
                have hfo := hfo ea ec wr co (by omega) rE
                obtain ⟨Q, hQ⟩ : ∃ Q, Q = form F E (n - 1) := ⟨_, rfl⟩
                rw [← hQ] at hfo hR2
                have HFX := hide hfo
                have HR2 := Lib.hid hR2
                clear hE0 hfo oE rE ho hQ hE hR2 hke
                go_wp2_with fail
                refine (unhide HFX).mono ?_
                rintro e w8 ⟨v8, rfl, o8, b8⟩
                obtain ⟨qa, qc, rfl, _⟩ := o8.form
                have c8 := Below.chain co b8
                have hMk := l18Make_any wr.heap.size w.heap.size F qa qc Q w8 ((unhide HPF).below c8) ok o8 b8.size
                have HMK := hide hMk
                clear hMk o8
                go_wp2_with fail
                refine (unhide HMK).mono ?_
                rintro e w4 ⟨v4, u4, rfl, o4, q4, b4⟩
                have c4 := Below.chain c8 b4
                have bb4 := b0.trans (c4.mono sk1)
                have kr4 := kr.below c4 kr.lt
                have p3 : w.heap.size + 1 < wr.heap.size := by omega
                obtain ⟨qq, hqq⟩ : ∃ qq, qq = mkC F Q := ⟨_, rfl⟩
                rw [← hqq] at o4 q4 ⊢
                obtain ⟨rp, rd, rx, ry, rz⟩ := qq
                simp only [] at o4 q4 ⊢
                obtain ⟨a4, c4, rfl, _, _⟩ := o4.form
                obtain ⟨p4, d4, rfl, _⟩ := q4.form
                have HQ := Lib.hid hqq
                clear hqq
                have r0 := kr4.cell 0
                have r1 := kr4.cell 1
                have r2 := kr4.cell 2
                have r3 := kr4.cell 3
                have s0 := kr4.frozen 0
                have s1 := kr4.frozen 1
                have s2 := kr4.frozen 2
                have s3 := kr4.frozen 3
                go_wp2
                refine bodyPost_ret (results_cell_tmp_row rfl _ _ (w.heap.size + 1) 31 #[.int .i64 rp, .int .i64 rd, .slice a4 rx.length c4, .slice p4 ry.length d4] _ rfl (kr4.b4.store _ _ _ _) Try.underlying31 rfl (by kernel_rfl)) rfl ?_
                rw [HR2.out, ← HQ.out]
                refine ⟨_, _, rfl, ?_, ?_, Below.set4 bb4 (by omega) _ _ _ _⟩
                · exact ((((o4.storeBelow p3 _).storeBelow p3 _).storeBelow p3 _).storeBelow p3 _).mono (by omega)
                · exact ((((q4.storeBelow p3 _).storeBelow p3 _).storeBelow p3 _).storeBelow p3 _).mono (by omega)
      ·
        have hkb : decide ((K : Int) < (m.length : Int)) = false := by rw [decide_eq_false_iff_not]; omega
        have hkb2 : decide (K < m.length) = false := by rw [decide_eq_false_iff_not]; omega
        have hKe : K = m.length := by omega
        have hall : ∀ i, i < m.length → nth (nthL m i) k = 0 := fun i hi => hz.out i (Nat.zero_le i) (by omega)
        have hpv : pivAt m k 0 = K := by rw [pivAt_none (fun i _ hi => hall i hi), hKe]
        have HALL := hide hall
        have HKE := Lib.hid hKe
        clear hz hall hKe
        have HPV := Lib.hid hpv
        clear hpv
        go_wp2_with fail
        go_loopw [8, 9] (fun v iv wr => ∃ i : Nat, iv = .int .i64 i ∧ i ≤ m.length ∧ Hid (OwnS wr w1.heap.size v (shoTo F m k K i)) ∧ Below w1.heap.size w1 wr) (fun _ iv _ => m.length - (intOf iv).toNat)
        case atStart => exact ⟨0, rfl, Nat.zero_le _, OwnS.empty w1 (Nat.le_refl _), (Below.refl _ _).alloc (Nat.le_refl _) _⟩
        case round =>
          obtain ⟨i, rfl, hi, ho, hb⟩ := hrel
          have hsz := hb.size
          have co := Below.chain b1 hb
          have c3 := (unhide KB wr co).cell 3
          by_cases hil : i < m.length
          ·
            have hib : decide ((i : Int) < (m.length : Int)) = true := by rw [decide_eq_true_eq]; omega
            by_cases hiK : i = K
            ·
              exact absurd (hiK.trans HKE.out) (by omega)
            ·
              have hst : shoTo F m k K (i + 1) = shoTo F m k K i ++ [wout (shoRow F m k K i) k] := by rw [shoTo, if_neg hiK]
              have hbe : ((i : Int) == (K : Int)) = false := by rw [beq_eq_false_iff_ne]; omega
              have hbe2 : (i == K) = false := by rw [beq_eq_false_iff_ne]; exact hiK
              have hsl := shoTo_len F m k K i
              obtain ⟨gi, oi, ci, hi1, hgi, hir, hic, hix⟩ := unhide HCC i hil
              have hi1 := (co.cell (p := ⟨gb, ob + i, none⟩) hgb).trans hi1
              have hix := (co.cell (p := ⟨gi, oi + k, none⟩) hgi).trans hix
              have hnl := unhide HNL i hil
              have hre := unhide HRE K i hil
              obtain ⟨y, hy⟩ : ∃ y, y = nth (nthL m i) k := ⟨_, rfl⟩
              rw [← hy] at hix
              have hwl := wout_len (row := shoRow F m k K i) (j := k) (by omega)
              rw [hre.1] at hwl
              have hrow : shoRow F m k K i = if y = 0 then nthL m i else less F (nthL m i) (nthL m K) (F.mul y (F.inv (nth (nthL m K) k))) := by rw [shoRow, hy]
              have hy0 : y = 0 := by rw [hy]; exact unhide HALL i hil
              have hyb : (y != 0) = false := by rw [hy0]; rfl
              rw [if_pos hy0] at hrow
              have hlw := l18Without_any (some ⟨gi, oi, none⟩) ci (shoRow F m k K i) k wr (by rw [hrow]; exact hir.below co) (by omega) (by omega) (by omega)
              rw [hre.1] at hlw
              obtain ⟨nw, hnw⟩ : ∃ nw, nw = wout (shoRow F m k K i) k := ⟨_, rfl⟩
              rw [← hnw] at hlw hst
              have HLW := hide hlw
              have HST := Lib.hid hst
              have hsl2 : (shoTo F m k K i).length + 1 ≤ 1073741824 := by omega
              clear hlw hst hnw hsl hre hwl
              have HY := Lib.hid hy
              have HY0 := Lib.hid hy0
              clear hrow hy hy0 hir hnl hiK
              go_wp2_with fail
              refine (unhide HLW).mono ?_
              rintro e w6 ⟨v6, rfl, o6, b6⟩
              have b06 := b6
              obtain ⟨a6, c6, rfl, _, _⟩ := o6.form
              have hH := ho.out.toH.belw b06 (Nat.le_refl _)
              have hb6 := hb.trans (b06.mono hsz)
              have z6 := b06.size
              have o6 := o6.mono (B' := wr.heap.size) (Nat.le_refl _)
              go_wp2_with (at_builtin; refine wpList_append_row rfl (.tmp 80) (.tmp 84) rfl (v := u8) rfl (hH.belw ((Below.refl _ _).alloc (Nat.le_refl _) _) z6) _ rfl ((Blk.new w6 22 #[.slice a6 nw.length c6] rfl).cell 0) (o6.alloc _) hsz (by simp; omega) hsl2 ?_; intro v7 w7 o7 g7 _)
              go_roundw
              case rel =>
                refine ⟨i + 1, by go_num, by omega, ?_, Below.stepS (hb6.alloc (by omega) _) g7 (hH.belw ((Below.refl _ _).alloc (Nat.le_refl _) _) z6).own (Nat.le_refl _) (by simp; omega)⟩
                show OwnS _ _ _ _
                rw [HST.out]
                exact o7
              case measure => simp only [intOf]; omega
          ·
            have hib : decide ((i : Int) < (m.length : Int)) = false := by rw [decide_eq_false_iff_not]; omega
            have hke : i = m.length := by omega
            have oE := ho.out
            rw [hke] at oE
            have hEl := shoTo_len F m k K m.length
            have HK2 := Lib.hid hke
            have hfo := unhide HFO K
            have hR2 : r = mkC F (form F (shoTo F m k K m.length) (n - 1)) := by rw [HRR.out, shoM, HPV.out]
            obtain ⟨E, hE⟩ : ∃ E, E = shoTo F m k K m.length := ⟨_, rfl⟩
            rw [← hE] at oE hfo hR2 hEl
            obtain ⟨ea, ec, rfl, rE⟩ := oE.form
            have zr := co.size
            have krr := kr.below co kr.lt
            have bbr := b0.trans (co.mono sk1)
            by_cases hE0 : E.length = 0
            ·
              have hbz : ((E.length : Int) == 0) = true := by rw [hE0]; rfl
              have hbz2 : (E.length == 0) = true := by rw [hE0]; rfl
              have hZ : mkC F (form F E (n - 1)) = (0, 0, [], [], 6) := by rw [List.eq_nil_of_length_eq_zero hE0, form_nil]; rfl
              have HN := Lib.hid (show r = (0, 0, [], [], 6) by rw [hR2, hZ])
              clear hE0 hZ oE rE ho hE hfo hR2 hke
              have r0 := krr.cell 0
              have r1 := krr.cell 1
              have r2 := krr.cell 2
              have r3 := krr.cell 3
              have s0 := krr.frozen 0
              have s1 := krr.frozen 1
              have s2 := krr.frozen 2
              have s3 := krr.frozen 3
              go_wp2
              refine bodyPost_ret (results_cell_tmp_row rfl _ _ (w.heap.size + 1) 31 #[.int .i64 0, .int .i64 0, .slice none 0 0, .slice none 0 0] _ rfl (krr.b4.store _ _ _ _) Try.underlying31 rfl (by kernel_rfl)) rfl ?_
              rw [HN.out]
              exact ⟨_, _, rfl, Own.nil _ _, OwnS.nil _ _, Below.set4 bbr (by omega) _ _ _ _⟩
            ·
              have hbz : ((E.length : Int) == 0) = false := by rw [beq_eq_false_iff_ne]; omega
              have hbz2 : (E.length == 0) = false := by rw [beq_eq_false_iff_ne]; omega
              have hfo := hfo ea ec wr co (by omega) rE
              obtain ⟨Q, hQ⟩ : ∃ Q, Q = form F E (n - 1) := ⟨_, rfl⟩
              rw [← hQ] at hfo hR2
              have HFX := hide hfo
              have HR2 := Lib.hid hR2
              clear hE0 hfo oE rE ho hQ hE hR2 hke
              go_wp2_with fail
              refine (unhide HFX).mono ?_
              rintro e w8 ⟨v8, rfl, o8, b8⟩
              obtain ⟨qa, qc, rfl, _⟩ := o8.form
              have c8 := Below.chain co b8
              have hMk := l18Make_any wr.heap.size w.heap.size F qa qc Q w8 ((unhide HPF).below c8) ok o8 b8.size
              have HMK := hide hMk
              clear hMk o8
              go_wp2_with fail
              refine (unhide HMK).mono ?_
              rintro e w4 ⟨v4, u4, rfl, o4, q4, b4⟩
              have c4 := Below.chain c8 b4
              have bb4 := b0.trans (c4.mono sk1)
              have kr4 := kr.below c4 kr.lt
              have p3 : w.heap.size + 1 < wr.heap.size := by omega
              obtain ⟨qq, hqq⟩ : ∃ qq, qq = mkC F Q := ⟨_, rfl⟩
              rw [← hqq] at o4 q4 ⊢
              obtain ⟨rp, rd, rx, ry, rz⟩ := qq
              simp only [] at o4 q4 ⊢
              obtain ⟨a4, c4, rfl, _, _⟩ := o4.form
              obtain ⟨p4, d4, rfl, _⟩ := q4.form
              have HQ := Lib.hid hqq
              clear hqq
              have r0 := kr4.cell 0
              have r1 := kr4.cell 1
              have r2 := kr4.cell 2
              have r3 := kr4.cell 3
              have s0 := kr4.frozen 0
              have s1 := kr4.frozen 1
              have s2 := kr4.frozen 2
              have s3 := kr4.frozen 3
              go_wp2
              refine bodyPost_ret (results_cell_tmp_row rfl _ _ (w.heap.size + 1) 31 #[.int .i64 rp, .int .i64 rd, .slice a4 rx.length c4, .slice p4 ry.length d4] _ rfl (kr4.b4.store _ _ _ _) Try.underlying31 rfl (by kernel_rfl)) rfl ?_
              rw [HR2.out, ← HQ.out]
              refine ⟨_, _, rfl, ?_, ?_, Below.set4 bb4 (by omega) _ _ _ _⟩
              · exact ((((o4.storeBelow p3 _).storeBelow p3 _).storeBelow p3 _).storeBelow p3 _).mono (by omega)
              · exact ((((q4.storeBelow p3 _).storeBelow p3 _).storeBelow p3 _).storeBelow p3 _).mono (by omega)
  ·
    have hN : r = (0, 0, [], [], plcR p d xs m j) := by rw [← hR, shoRes, if_neg hq]
    obtain ⟨q, hqq⟩ : ∃ q, q = plcR p d xs m j := ⟨_, rfl⟩
    rw [← hqq] at hq hV hN
    have hbe : (q != 0) = true := by rw [bne_iff_ne]; exact hq
    have HN := Lib.hid hN
    have HV := hide hV
    clear hV hqq hN hR hq hC0
    have f0 := k0.cell 0
    have f1 := k0.cell 1
    have f2 := k0.cell 2
    have f3 := k0.cell 3
    go_enter Try.func27, Try.ntmps27
    go_upto_region 1 with fail
    rw [← HW.out]
    go_wp2_with fail
    refine (unhide HV).mono ?_
    rintro e w1 ⟨rfl, b1⟩
    have k1 := k0.below b1 k0.lt
    have kr1 := kr.below b1 kr.lt
    clear f0 f1 f2 f3
    have f0 := k1.cell 0
    have f1 := k1.cell 1
    have f2 := k1.cell 2
    have f3 := k1.cell 3
    have bb1 := b0.trans (b1.mono sk1)
    have z1 := b1.size
    have r0 := kr1.cell 0
    have r1 := kr1.cell 1
    have r2 := kr1.cell 2
    have r3 := kr1.cell 3
    have s0 := kr1.frozen 0
    have s1 := kr1.frozen 1
    have s2 := kr1.frozen 2
    have s3 := kr1.frozen 3
    go_wp2
    refine bodyPost_ret (results_cell_tmp_row rfl _ _ (w.heap.size + 1) 31 #[.int .i64 0, .int .i64 0, .slice none 0 0, .slice none 0 0] _ rfl (kr1.b4.store _ _ _ _) Try.underlying31 rfl (by kernel_rfl)) rfl ?_
    rw [HN.out]
    exact ⟨_, _, rfl, Own.nil _ _, OwnS.nil _ _, Below.set4 bb1 (by omega) _ _ _ _⟩
end Go.Proofs.Ytcblhjhabhjbkaa

/-
  Plain: the shortened rows as the program makes them.
-/
namespace Go.Proofs.Ytcblhjhabhjbkaa
open Go.RowKit

/-- A row brought to 0 at j by row k, whatever stands there. -/
def lesR (F : FD) (m : List (List Int)) (j k : Nat) (row : List Int) : List Int := less F row (nthL m k) (F.mul (nth row j) (F.inv (nth (nthL m k) j)))
theorem shoRow_les {F : FD} (ok : F.Ok) {n : Nat} {m : List (List Int)} (h : F.Mat n m) {j k i : Nat} (hi : i < m.length) : shoRow F m j k i = lesR F m j k (nthL m i) := by
  rw [shoRow, lesR]
  split
  · rename_i h0
    rw [h0, zero_mul' ok, less_zero ok (Mat_nth h hi).2]
  · rfl
theorem shoTo_erase {F : FD} (ok : F.Ok) {n : Nat} {m : List (List Int)} (h : F.Mat n m) {j k i : Nat} (hi : i ≤ m.length) : shoTo F m j k i = ((m.take i).eraseIdx k).map fun row => wout (lesR F m j k row) j := by
  induction i with
  | zero => simp [shoTo]
  | succ i ih =>
    have hl : (m.take i).length = i := by rw [List.length_take]; omega
    rw [shoTo, take_nthL (show i < m.length by omega)]
    split
    · rename_i e
      subst e
      rw [ih (by omega), List.eraseIdx_append_of_length_le (by omega), hl, Nat.sub_self, List.eraseIdx_cons_zero, List.append_nil, List.eraseIdx_of_length_le (by omega)]
    · rename_i e
      rw [ih (by omega), shoRow_les ok h (by omega)]
      by_cases hk : k < i
      · rw [List.eraseIdx_append_of_lt_length (by omega), List.map_append, List.map_singleton]
      · rw [List.eraseIdx_of_length_le (l := m.take i) (by omega), List.eraseIdx_of_length_le (by rw [List.length_append, hl, List.length_singleton]; omega), List.map_append, List.map_singleton]
theorem sho_hit {F : FD} (ok : F.Ok) {n : Nat} {m : List (List Int)} (h : F.Mat n m) {j k : Nat} (hp : pivAt m j 0 = k) : shoM F m j = woutM ((m.eraseIdx k).map (lesR F m j k)) j := by
  rw [shoM, hp, shoTo_erase ok h (Nat.le_refl _), List.take_length, woutM, List.map_map]
  rfl
theorem sho_none {F : FD} {m : List (List Int)} {j : Nat} (hp : pivAt m j 0 = m.length) (hz : ∀ i, i < m.length → nth (nthL m i) j = 0) : shoM F m j = woutM m j := by
  rw [shoM, hp]
  have key : ∀ i, i ≤ m.length → shoTo F m j m.length i = woutTo m j i := fun i => by
    induction i with
    | zero => intro _; simp [shoTo, woutTo]
    | succ i ih =>
      intro hi
      rw [shoTo, if_neg (by omega), woutTo_succ m j (by omega), ih (by omega), shoRow, if_pos (hz i (by omega))]
  rw [key _ (Nat.le_refl _), woutTo_all]
end Go.Proofs.Ytcblhjhabhjbkaa

