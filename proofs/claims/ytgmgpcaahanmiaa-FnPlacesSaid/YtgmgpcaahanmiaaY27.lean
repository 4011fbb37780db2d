/-
  Texts joined.
-/
import Derived.Test.YtgmgpcaahanmiaaY5
import Derived.Test.YtgmgpcaahanmiaaY10
set_option linter.unusedVariables false
set_option linter.unusedSimpArgs false
set_option maxRecDepth 100000
set_option maxHeartbeats 40000000
namespace Go.Proofs.Ytgmgpcaahanmiaa
open Go.RowKit
attribute [local go_sem ↓] Go.wp_at_zero Go.wp_at_succ
theorem shorten1_any (c gq : Nat) (a : Option Addr) (cp : Nat) (xs : List Int) (w : World) (hx : Rd w a xs) (hc : c < xs.length) (hq : w.cell? ⟨gq, 0, none⟩ = some (.int .i64 c)) :
    Calls Try.prog 140 #[.slice a xs.length cp, .pointer (some ⟨gq, 0, none⟩)] w fun e w' => e = .returned (.bool (notAt c xs)) ∧ w = w' := by
 obtain ⟨b1, o1, rfl, _, hcc⟩ := hx.at_ (by omega)
 have h1 := hcc c hc
 have hxl := hx.len
 unfold notAt
 generalize nth xs c = x at h1
 clear hcc hx
 go_enter Try.func140, Try.ntmps140
 go_wp2
 go_ret
 exact ⟨rfl, rfl⟩
theorem idx_shorten (c gq n : Nat) (a : Option Addr) (cp : Nat) (xss : List (List Int)) (w : World) (hx : RdS w a xss) (hn : ∀ xs ∈ xss, xs.length = n) (hcn : c < n) (hq : w.cell? ⟨gq, 0, none⟩ = some (.int .i64 c)) :
    Calls Try.prog 139 #[.slice a xss.length cp, .func (.func 140) #[] #[.pointer (some ⟨gq, 0, none⟩)]] w fun e w' => e = .returned (.int .i64 (firstOfL (notAt c) xss)) ∧ w = w' := by
 have hxl := hx.len
 have hq0 := hq
 go_enter Try.func139, Try.ntmps139
 go_wp2_with fail
 go_loop [8] (fun i => ∃ k : Nat, i = .int .i64 k ∧ k ≤ xss.length ∧ Hid (∀ j, j < k → notAt c (nthL xss j) = false)) (fun i => xss.length - (intOf i).toNat)
 case atStart => exact ⟨0, rfl, Nat.zero_le _, fun j hj => by omega⟩
 case round =>
  obtain ⟨k, rfl, hk, hq⟩ := hrel
  by_cases hkl : k < xss.length
  · obtain ⟨b1, o1, rfl, _, hc⟩ := hx.at_ (by omega)
    obtain ⟨ai, ci, h1, hr1⟩ := hc k hkl
    have hln := hn _ (nthL_mem hkl)
    obtain ⟨r, hr⟩ : ∃ r, notAt c (nthL xss k) = r := ⟨_, rfl⟩
    have HR := Lib.hid hr
    have hcl := shorten1_any c gq ai ci (nthL xss k) w hr1 (by omega) hq0
    rw [hr, hln] at hcl
    rw [hln] at h1
    have HC := hide hcl
    clear hr hcl hc hx hr1 hln hn
    go_wp2_with fail
    refine (unhide HC).mono ?_
    rintro e w1 ⟨rfl, rfl⟩
    cases r
    · go_wp2
      go_round
      case rel =>
       refine ⟨k + 1, by go_num, by omega, fun j hj => ?_⟩
       rcases Nat.lt_succ_iff_lt_or_eq.1 hj with h | rfl
       · exact hq.out j h
       · exact HR.out
      case measure => simp [intOf]; omega
    · go_wp2
      go_ret
      exact ⟨ret_int (firstOfL_yes hkl HR.out hq.out).symm, rfl⟩
  · go_wp2
    go_ret
    exact ⟨ret_int (firstOfL_no (fun j hj => hq.out j (by omega))).symm, rfl⟩
end Go.Proofs.Ytgmgpcaahanmiaa
namespace Go.Proofs.Ytgmgpcaahanmiaa
open Go.RowKit
attribute [local go_sem ↓] Go.wp_at_zero Go.wp_at_succ
theorem addTimes_apart (F : FD) (aA : Option Addr) (cA : Nat) (aS : Option Addr) (cS : Nat) (aM : Option Addr) (cM : Nat) (aI : Option Addr) (cI : Nat) (w : World) (B g1 c1 : Nat) (b : Option Addr) (d : Nat) (xs ys : List Int) (s : Int) (ok : F.Ok) (hT : ∀ W, w.grownBy W (some g1) → RdS W aA (rowsTo F.add F.n F.n) ∧ RdS W aM (rowsTo F.mul F.n F.n))
    (ho : Own w B (.slice (some ⟨g1, 0, none⟩) xs.length c1) xs) (hy : Rd w b ys) (hne : ∀ p, b = some p → p.block ≠ g1) (hl : ys.length = xs.length) (hs0 : 0 ≤ s) (hs1 : s < F.n) (hm : ∀ x ∈ xs, 0 ≤ x ∧ x < F.n) (hm2 : ∀ y ∈ ys, 0 ≤ y ∧ y < F.n) :
    Calls Try.prog 90 #[.agg #[.int .i64 F.n, .slice aA F.n cA, .slice aS F.n cS, .slice aM F.n cM, .slice aI F.n cI], .slice (some ⟨g1, 0, none⟩) xs.length c1, .slice b ys.length d, .int .i64 s] w fun e w' => e = .returned (.tuple #[]) ∧ Own w' B (.slice (some ⟨g1, 0, none⟩) xs.length c1) (addTo F xs ys s xs.length) ∧ w.grownBy w' (some g1) := by
 have HT := hide hT
 clear hT
 obtain ⟨n2, n64⟩ := ok.n_bd
 have hxl := ho.1
 have hg1 := ho.lt g1 rfl
 have hcap := ho.cap
 unfold maxLen at hcap
 obtain ⟨hcap1, hcap2⟩ := hcap
 obtain ⟨W0, hW0⟩ : ∃ W0, W0 = w.alloc (.cells #[.int .i64 F.n, .slice aA F.n cA, .slice aS F.n cS, .slice aM F.n cM, .slice aI F.n cI] 93) := ⟨_, rfl⟩
 have kT : Blk W0 w.heap.size 93 #[.int .i64 F.n, .slice aA F.n cA, .slice aS F.n cS, .slice aM F.n cM, .slice aI F.n cI] := by rw [hW0]; exact Blk.new _ _ _ rfl
 have gr0 : w.grownBy W0 (some g1) := by rw [hW0]; exact World.grownBy_alloc _ _ _
 have ho0 : Own W0 B (.slice (some ⟨g1, 0, none⟩) xs.length c1) xs := by rw [hW0]; exact ho.alloc _
 obtain ⟨si, rfl⟩ := Int.eq_ofNat_of_zero_le hs0
 have HW := Lib.hid hW0
 have HO := Lib.hid ho0
 have HL := Lib.hid hl
 clear hW0 ho0 hl ho
 go_enter Try.func90, Try.ntmps90
 go_wp2_with fail
 rw [← HW.out, HL.out]
 go_loopw [12] (fun iv wr => ∃ (k : Nat), iv = .int .i64 k ∧ k ≤ xs.length ∧ Hid (Own wr B (.slice (some ⟨g1, 0, none⟩) xs.length c1) (addTo F xs ys si k)) ∧ Hid (w.grownBy wr (some g1)) ∧ Blk wr w.heap.size 93 #[.int .i64 F.n, .slice aA F.n cA, .slice aS F.n cS, .slice aM F.n cM, .slice aI F.n cI]) (fun iv _ => xs.length - (intOf iv).toNat)
 case atStart => exact ⟨0, rfl, Nat.zero_le _, HO.out, gr0, kT⟩
 case round =>
  obtain ⟨k, rfl, hk, ho, hgr, kR⟩ := hrel
  by_cases hkl : k < xs.length
  · have hky : k < ys.length := by rw [HL.out]; exact hkl
    obtain ⟨tA, tM⟩ := unhide HT wr hgr.out
    obtain ⟨gb, ob, rfl, hbb, hc2⟩ := (hy.grow hgr.out (fun p hp e => by injection e with e; exact hne p hp e)).at_ (by omega)
    have h2 := hc2 k hky
    have hlen := addTo_len F xs ys si k
    have h1 := ho.out.cell (j := k) (by rw [hlen]; exact hkl)
    have hf1 := ho.out.frozen k
    rw [addTo_nth F xs ys si k (by omega), if_neg (by omega)] at h1
    have hxr := hm _ (nth_mem hkl)
    have hyr := hm2 _ (nth_mem hky)
    obtain ⟨x, hx⟩ := Int.eq_ofNat_of_zero_le hxr.1
    obtain ⟨y, hy'⟩ := Int.eq_ofNat_of_zero_le hyr.1
    have hres : addTo F xs ys si (k + 1) = (addTo F xs ys si k).set k (F.add x (F.mul si y)) := by rw [addTo, hx, hy']
    rw [hx] at h1 hxr
    rw [hy'] at h2 hyr
    have hMb := mul_bd ok si y
    obtain ⟨m, hmm⟩ := Int.eq_ofNat_of_zero_le hMb.1
    obtain ⟨bM, oM, bm, om, cm, rfl, m1, m2⟩ := tab_at tM (i := si) (j := y) (by omega) (by omega)
    obtain ⟨bA, oA, ba, oa, ca, rfl, a1, a2⟩ := tab_at tA (i := x) (j := m) (by omega) (by omega)
    rw [hmm] at m2 hres hMb
    obtain ⟨D, hD⟩ : ∃ D, D = F.add x m := ⟨_, rfl⟩
    rw [← hD] at a2 hres
    have t1 : wr.cell? ⟨w.heap.size, 1, none⟩ = some (.slice (some ⟨bA, oA, none⟩) F.n cA) := kR.cell 1
    have t3 : wr.cell? ⟨w.heap.size, 3, none⟩ = some (.slice (some ⟨bM, oM, none⟩) F.n cM) := kR.cell 3
    have lx : x < F.n := by omega
    have ly : y < F.n := by omega
    have ls : si < F.n := by omega
    have lm : m < F.n := by omega
    have HRES := Lib.hid hres
    have KR := Lib.hid kR
    clear hres hD hmm hx hy' hc2 hlen kR hm hm2 tA tM hne hy hxr hyr hMb
    go_wp2_with fail
    go_region
    go_wp2
    go_roundw
    case rel =>
     have hs := ho.out.set k D
     refine ⟨k + 1, by go_num, by omega, ?_, grown_drew (grown_trans_row hgr.out hs.2), KR.out.far (by show w.heap.size ≠ g1; omega) _⟩
     show Own _ _ _ _
     rw [HRES.out]
     exact hs.1
    case measure => simp only [intOf]; omega
  · have hke : k = xs.length := by omega
    have HE := Lib.hid hke
    clear hke
    go_wp2
    go_end0
    exact ⟨rfl, by have o := ho.out; rw [HE.out] at o; exact o, hgr.out⟩
end Go.Proofs.Ytgmgpcaahanmiaa

