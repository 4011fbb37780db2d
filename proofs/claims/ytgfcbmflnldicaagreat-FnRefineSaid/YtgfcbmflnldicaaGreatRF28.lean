/-
  Texts joined.
-/
import Derived.Test.YtgfcbmflnldicaaGreatRF1
import Derived.Test.YtgfcbmflnldicaaGreatRF11
import Derived.Test.YtgfcbmflnldicaaGreatRF25
import Derived.Test.YtgfcbmflnldicaaGreatRF27
set_option linter.unusedVariables false
set_option linter.unusedSimpArgs false
set_option maxRecDepth 100000
set_option maxHeartbeats 40000000
namespace Go.Proofs.YtgfcbmflnldicaaGreat
open Go.RowKit
attribute [local go_sem ↓] Go.wp_at_zero Go.wp_at_succ
theorem permOk_of {p q : List Int} {n : Nat} (h : permOk p n = true) (hp : q.Perm p) : permOk q n = true := by
 rw [permOk, Bool.and_eq_true, Bool.and_eq_true, decide_eq_true_eq, decide_eq_true_eq, List.all_eq_true] at h ⊢
 exact ⟨by rw [hp.length_eq]; exact h.1, hp.nodup_iff.2 h.2.1, fun x hx => h.2.2 x (hp.mem_iff.1 hx)⟩
theorem permOk_rng (n : Nat) : permOk (rngI n) n = true := by
 rw [permOk, Bool.and_eq_true, Bool.and_eq_true, decide_eq_true_eq, decide_eq_true_eq, List.all_eq_true]
 refine ⟨rngI_len n, rngI_nodup n, fun x hx => ?_⟩
 rw [decide_eq_true_eq]
 exact rngI_mem.1 hx
theorem permOk_len {p : List Int} {n : Nat} (h : permOk p n = true) : p.length = n := by
 rw [permOk, Bool.and_eq_true, decide_eq_true_eq] at h
 exact h.1
theorem swap_perm {p : List Int} {i k : Nat} (hi : i < p.length) (hk : k < p.length) : ((p.set i (nth p k)).set k (nth p i)).Perm p := by
 rw [nth_lt hk, nth_lt hi]
 exact List.set_set_perm hi hk
def PermD (w : World) (n : Nat) (e : Ending) (w' : World) : Prop := ∃ v p, e = .returned v ∧ permOk p n = true ∧ Own w' w.heap.size v p ∧ Below w.heap.size w w'
theorem b10Perm_any (a : Option Addr) (c : Nat) (bs : List Int) (n : Nat) (w : World) (h : RdB w a bs) (hn : n ≤ 100) :
    Calls Tryz.prog 12 #[.slice a bs.length c, .int .i64 n] w (PermD w n) := by
 have HB := hide h
 clear h
 go_enter Tryz.func12, Tryz.ntmps12
 go_wp2_with fail
 go_loopw [5, 6] (fun v iv wr => ∃ i : Nat, iv = .int .i64 i ∧ i ≤ n ∧ Hid (Own wr w.heap.size v (rngI i)) ∧ Below w.heap.size w wr) (fun _ iv _ => n - (intOf iv).toNat)
 case atStart => exact ⟨0, rfl, Nat.zero_le _, Own.empty w (Nat.le_refl _), (Below.refl _ _).alloc (Nat.le_refl _) _⟩
 case round =>
  obtain ⟨i, rfl, hi, ho, hb⟩ := hrel
  have hsz := hb.size
  by_cases hin : i < n
  · have hst := rngI_succ i
    have hrl := rngI_len i
    obtain ⟨X, hX⟩ : ∃ X, X = rngI i := ⟨_, rfl⟩
    rw [← hX] at ho hst hrl
    obtain ⟨ao, co, rfl, _, _⟩ := ho.out.form
    have HO := hide ho.out
    have HST := Lib.hid hst
    have HRL := Lib.hid hrl
    clear hX ho hst hrl
    go_wp2_with (at_builtin; refine wpList_append_ints rfl (.tmp 16) (.tmp 18) rfl w.heap.size _ X [(i : Int)] rfl ((unhide HO).alloc _) _ 1 1 rfl rfl (Rd.one wr i _) (by rw [HRL.out]; simp; omega) (by simp; omega) ?_; intro v5 w5 o5 g5 _)
    have b5 := Below.step (hb.alloc (by omega) _) g5 ((unhide HO).alloc _) (Nat.le_refl _) (by simp; omega)
    have O5 := hide (show Own w5 w.heap.size v5 (rngI (i + 1)) from by rw [HST.out]; exact o5)
    clear o5 g5
    go_roundw
    case rel => exact ⟨i + 1, by go_num, by omega, unhide O5, b5⟩
    case measure => simp only [intOf]; omega
  · have hie : i = n := by omega
    have hoo := ho.out
    rw [hie] at hoo
    have hpk := permOk_rng n
    rcases Nat.eq_zero_or_pos n with hn0 | hn0
    · subst hn0
      have e0 : ¬ (0 : Int) < -1 := by omega
      obtain ⟨ao, co, rfl, _, _⟩ := hoo.form
      have HOO := hide hoo
      clear hoo ho hie
      go_wp2_with fail
      go_loopw [7] (fun iv wr2 => iv = .int .i64 (-1) ∧ wr2 = wr) (fun iv _ => 0)
      case atStart => exact ⟨rfl, rfl⟩
      case round =>
       obtain ⟨rfl, rfl⟩ := hrel
       go_wp2
       go_ret
       exact ⟨_, [], rfl, hpk, unhide HOO, hb⟩
    · obtain ⟨P, hP⟩ : ∃ P, P = rngI n := ⟨_, rfl⟩
      rw [← hP] at hoo hpk
      have hPl := permOk_len hpk
      rcases hoo.slice_form with ⟨_, e⟩ | ⟨g, co, rfl, hg1, _⟩
      · exfalso; rw [e] at hPl; simp at hPl; omega
      rw [hPl] at hoo ⊢
      have HOO := hide hoo
      have HPK := Lib.hid hpk
      have hwn : IntKind.i64.wrap ((n : Int) - 1) = (n : Int) - 1 := IntWalk.i64_in _ (by omega)
      clear hoo ho hie hP hpk hPl
      go_wp2_with fail
      go_loopw [7] (fun iv wr => ∃ (j : Nat) (p : List Int), iv = .int .i64 ((j : Int) - 1) ∧ j ≤ n ∧ Hid (permOk p n = true) ∧ Hid (Own wr w.heap.size (.slice (some ⟨g, 0, none⟩) n co) p) ∧ Below w.heap.size w wr) (fun iv _ => (intOf iv).toNat)
      case atStart => exact ⟨n, P, rfl, Nat.le_refl _, HPK, HOO, hb⟩
      case round =>
       obtain ⟨j, p, rfl, hj, hpk, ho, hb⟩ := hrel
       by_cases hj1 : 1 < j
       · obtain ⟨i, hi⟩ : ∃ i : Nat, j = i + 1 := ⟨j - 1, by omega⟩
         subst hi
         have hii : ((i + 1 : Nat) : Int) - 1 = (i : Int) := by omega
         rw [hii]
         have g1 : (0 : Int) < (i : Int) := by omega
         have hw1 : IntKind.i64.wrap ((i : Int) + 1) = (i : Int) + 1 := IntWalk.i64_in _ (by omega)
         have hw2 : IntKind.i64.wrap ((i : Int) - 1) = (i : Int) - 1 := IntWalk.i64_in _ (by omega)
         have hat := b10At_any a c bs i ((i : Int) + 1) wr ((unhide HB).below hb) (by omega)
         have HAT := hide hat
         have hl := permOk_len hpk.out
         have HPK1 := hpk
         have HO1 := hide ho.out
         clear hii hat hpk ho
         go_wp2_with fail
         refine (unhide HAT).mono ?_
         rintro e w1 ⟨k, rfl, hk, rfl⟩
         have hki : k ≤ i := by rcases hk with h | h <;> omega
         have ci := (unhide HO1).cell (j := i) (by rw [hl]; omega)
         have ck := (unhide HO1).cell (j := k) (by rw [hl]; omega)
         have pi := (unhide HO1).frozen i
         have pk := (unhide HO1).frozen k
         have hsp := swap_perm (p := p) (i := i) (k := k) (by rw [hl]; omega) (by rw [hl]; omega)
         have hnew := permOk_of HPK1.out hsp
         have hln : (p.set i (nth p k)).length = n := by rw [List.length_set]; exact hl
         obtain ⟨x, hx⟩ : ∃ x, x = nth p i := ⟨_, rfl⟩
         obtain ⟨y, hy⟩ : ∃ y, y = nth p k := ⟨_, rfl⟩
         rw [← hx] at ci hnew
         rw [← hy] at ck hnew
         have o1 := ((unhide HO1).set i y).1
         have o2 := (o1.set k x).1
         have HN := Lib.hid hnew
         have O2 := hide o2
         have B2 := hide ((hb.setCell (p := ⟨g, i, none⟩) hg1 (.int .i64 y)).setCell (p := ⟨g, k, none⟩) hg1 (.int .i64 x))
         have hkn : k < n := by omega
         have hin2 : i < n := by omega
         have hxy : k = i → x = y := fun e => by rw [hx, hy, e]
         have HXY := hide hxy
         clear hsp hnew hln hx hy o1 o2 hl hxy
         by_cases hke : k = i
         · subst hke
           obtain rfl := (unhide HXY) rfl
           go_wp2
           go_roundw
           case rel => exact ⟨k, _, by first | rfl | go_num, by omega, HN, unhide O2, unhide B2⟩
           case measure => simp only [intOf]; omega
         · have hke2 : ¬ i = k := fun e => hke e.symm
           go_wp2
           go_roundw
           case rel => exact ⟨i, _, by first | rfl | go_num, by omega, HN, unhide O2, unhide B2⟩
           case measure => simp only [intOf]; omega
       · have g1 : ¬ (0 : Int) < ((j : Int) - 1) := by omega
         have HO1 := hide ho.out
         have hpo := hpk.out
         have HPO := Lib.hid hpo
         clear ho hpk hpo
         go_wp2
         go_ret
         exact ⟨_, p, rfl, HPO.out, unhide HO1, hb⟩
theorem b10Spread_any (a : Option Addr) (c : Nat) (xs : List Int) (pa : Option Addr) (pc : Nat) (p : List Int) (w : World) (hx : Rd w a xs) (hp : Rd w pa p) (hn : xs.length ≤ 100) (hl : p.length = xs.length) (hpk : permOk p xs.length = true) :
    Calls Tryz.prog 14 #[.slice a xs.length c, .slice pa p.length pc] w fun e w' => ∃ v, e = .returned v ∧ Own w' w.heap.size v (setTo xs p xs.length) ∧ Below w.heap.size w w' := by
 obtain ⟨n, hnn⟩ : ∃ n, n = xs.length := ⟨_, rfl⟩
 have HX := hide hx
 have HP := hide hp
 have HAT := hide (fun k (hk : k < n) => permOk_at hpk (by rw [← hnn]; exact hk))
 have HXL := Lib.hid hnn
 have HPL := Lib.hid (show p.length = n by rw [hl, ← hnn])
 have HSL := hide (fun k => setTo_len xs p k)
 have HSS := hide (show ∀ k, setTo xs p (k + 1) = (setTo xs p k).set (nth p k).toNat (nth xs k) from fun k => rfl)
 rw [hl, ← hnn]
 have hn2 : n ≤ 100 := by omega
 clear hx hp hl hpk hnn hn
 go_enter Tryz.func14, Tryz.ntmps14
 go_wp2_with (refine wpList_make_ints rfl (.tmp 8) (.tmp 8) rfl .i64 .i64 n rfl rfl (by omega) ?_; intro w3 g3 o3 b3)
 have O3 := hide (show Own w3 w.heap.size (.slice (some ⟨g3, 0, none⟩) n n) (setTo xs p 0) from by rw [setTo, ← HXL.out]; exact o3)
 clear o3
 go_wp2_with fail
 go_loopw [6] (fun kv wr => ∃ k : Nat, kv = .int .i64 k ∧ k ≤ n ∧ Hid (Own wr w.heap.size (.slice (some ⟨g3, 0, none⟩) n n) (setTo xs p k)) ∧ Below w.heap.size w wr) (fun kv _ => n - (intOf kv).toNat)
 case atStart => exact ⟨0, rfl, Nat.zero_le _, O3, b3⟩
 case round =>
  obtain ⟨k, rfl, hk, ho, hb⟩ := hrel
  have hsz := hb.size
  by_cases hkn : k < n
  · obtain ⟨gp, op, rfl, hgp, hcp⟩ := (unhide HP).at_ (by rw [HPL.out]; omega)
    obtain ⟨gx, ox, rfl, hgx, hcx⟩ := (unhide HX).at_ (by rw [← HXL.out]; omega)
    have c1 := hcp k (by rw [HPL.out]; exact hkn)
    have c2 := hcx k (by rw [← HXL.out]; exact hkn)
    obtain ⟨y, hy, hyn⟩ := (unhide HAT) k hkn
    rw [← HXL.out] at hyn
    rw [hy] at c1
    have hst := (unhide HSS) k
    rw [hy, Int.toNat_natCast] at hst
    obtain ⟨x, hxx⟩ : ∃ x, x = nth xs k := ⟨_, rfl⟩
    rw [← hxx] at c2 hst
    have d1 := (hb.cell (p := ⟨gp, op + k, none⟩) hgp).trans c1
    have d2 := (hb.cell (p := ⟨gx, ox + k, none⟩) hgx).trans c2
    have hg3 := (ho.out.lt g3 rfl).1
    have HSET := hide (ho.out.set y x)
    have hsl := (unhide HSL) k
    rw [← HXL.out] at hsl
    have c3 := ho.out.cell (j := y) (by rw [hsl]; exact hyn)
    have p3 := ho.out.frozen y
    have HST := Lib.hid hst
    have hy0 : (0 : Int) ≤ (y : Int) := by omega
    have hyn2 : (y : Int) < (n : Int) := by omega
    have dg := World.block_lt_of_cell? wr _ c3
    have BX := hide (show Below w.heap.size w wr.drew ∧ wr.drew.cell? ⟨gp, op + k, none⟩ = some (.int .i64 (y : Int)) ∧ wr.drew.cell? ⟨gx, ox + k, none⟩ = some (.int .i64 x) ∧ wr.drew.frozen? ⟨g3, y, none⟩ = false from ⟨hb.drew, d1, d2, p3⟩)
    obtain ⟨z, hz⟩ : ∃ z, z = nth (setTo xs p k) y := ⟨_, rfl⟩
    rw [← hz] at c3
    clear hcp hcx c1 c2 hy hst hxx ho hsl hz
    go_upto_region 6 with fail
    refine wp_region_noPanic ?_
    refine wp_region_until (S := (fun W => Below w.heap.size w W ∧ W.cell? ⟨gp, op + k, none⟩ = some (.int .i64 (y : Int)) ∧ W.cell? ⟨gx, ox + k, none⟩ = some (.int .i64 x) ∧ W.frozen? ⟨g3, y, none⟩ = false)) 10 [(0, 0), (0, 1), (0, 2), (0, 3), (0, 4), (0, 5), (0, 6), (0, 7), (0, 8), (0, 9), (2, 10)] (by kernel_rfl) (by kernel_rfl) (by kernel_rfl) rfl (fun _ _ _ _ _ h => h) ?_ (fun hHeld => ?_)
    · exact unhide BX
    refine SeqU.take (by rfl) (v := ?hv1) (by rfl) ?hy1 ?hr1
    case hy1 =>
     intro w hSw
     try dsimp only at hSw
     go_simp
     try (with_reducible rfl)
    try simp only [Act.put, List.setIfInBounds_toArray, List.set_cons_zero, List.set_cons_succ]
    refine SeqU.take (by rfl) (v := ?hv2) (by rfl) ?hy2 ?hr2
    case hy2 =>
     intro w hSw
     try dsimp only at hSw
     go_simp
     try (with_reducible rfl)
    try simp only [Act.put, List.setIfInBounds_toArray, List.set_cons_zero, List.set_cons_succ]
    refine SeqU.take (by rfl) (v := ?hv3) (by rfl) ?hy3 ?hr3
    case hy3 =>
     intro w hSw
     try dsimp only at hSw
     go_simp
     try (with_reducible rfl)
    try simp only [Act.put, List.setIfInBounds_toArray, List.set_cons_zero, List.set_cons_succ]
    refine SeqU.take (by rfl) (v := ?hv4) (by rfl) ?hy4 ?hr4
    case hy4 =>
     intro w hSw
     try dsimp only at hSw
     go_simp
     try (with_reducible rfl)
    try simp only [Act.put, List.setIfInBounds_toArray, List.set_cons_zero, List.set_cons_succ]
    refine SeqU.take (by rfl) (v := ?hv5) (by rfl) ?hy5 ?hr5
    case hy5 =>
     intro w hSw
     try dsimp only at hSw
     go_simp
     try (with_reducible rfl)
    try simp only [Act.put, List.setIfInBounds_toArray, List.set_cons_zero, List.set_cons_succ]
    refine SeqU.take (by rfl) (v := ?hv6) (by rfl) ?hy6 ?hr6
    case hy6 =>
     intro w hSw
     try dsimp only at hSw
     go_simp
     try (with_reducible rfl)
    try simp only [Act.put, List.setIfInBounds_toArray, List.set_cons_zero, List.set_cons_succ]
    refine SeqU.take (by rfl) (v := ?hv7) (by rfl) ?hy7 ?hr7
    case hy7 =>
     intro w hSw
     try dsimp only at hSw
     go_simp
     try (with_reducible rfl)
    try simp only [Act.put, List.setIfInBounds_toArray, List.set_cons_zero, List.set_cons_succ]
    refine SeqU.take (by rfl) (v := ?hv8) (by rfl) ?hy8 ?hr8
    case hy8 =>
     intro w hSw
     try dsimp only at hSw
     go_simp
     try (with_reducible rfl)
    try simp only [Act.put, List.setIfInBounds_toArray, List.set_cons_zero, List.set_cons_succ]
    refine SeqU.take (by rfl) (v := ?hv9) (by rfl) ?hy9 ?hr9
    case hy9 =>
     intro w hSw
     try dsimp only at hSw
     go_simp
     try (with_reducible rfl)
    try simp only [Act.put, List.setIfInBounds_toArray, List.set_cons_zero, List.set_cons_succ]
    refine SeqU.take (by rfl) (v := ?hv10) (by rfl) ?hy10 ?hr10
    case hy10 =>
     intro w hSw
     try dsimp only at hSw
     go_simp
     try (with_reducible rfl)
    try simp only [Act.put, List.setIfInBounds_toArray, List.set_cons_zero, List.set_cons_succ]
    refine SeqU.last (by rfl) (fun K hK => ?_)
    go_simp
    skip
    refine hK.out _ _ ?_
    clear hK K
    try simp only [Act.put, List.setIfInBounds_toArray, List.set_cons_zero, List.set_cons_succ]
    refine SeqU.done (NoPanic.normal ?_)
    go_wp2
    go_roundw
    case rel => exact ⟨k + 1, by go_num, by omega, by show Own _ _ _ _; rw [HST.out]; exact (unhide HSET).1.drewN 1, ((hb.setCell (p := ⟨g3, y, none⟩) hg3 (.int .i64 x))).drew⟩
    case measure => simp only [intOf]; omega
  · have hke : k = n := by omega
    have hoo := ho.out
    rw [hke, HXL.out] at hoo
    have HOO := hide hoo
    clear hke hoo ho
    go_wp2
    go_ret
    rw [HXL.out]
    exact ⟨_, rfl, unhide HOO, hb⟩
end Go.Proofs.YtgfcbmflnldicaaGreat
