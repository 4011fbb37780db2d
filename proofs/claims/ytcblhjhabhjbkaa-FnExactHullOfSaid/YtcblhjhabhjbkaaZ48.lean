/-
  Walks: HullOf on both sides. Printed by gen_hull.py.
-/
import Derived.BigQuiet
import Derived.BigRegion
import Derived.ChangeOld
import Derived.Deep.DeepCutAuto
import Derived.Deep.DeepMust
import Derived.Deep.DrawnRows
import Derived.Deep.Draws
import Derived.Deep.OwnRows
import Derived.Deep.QuietTactic
import Derived.Deep.RegionHeld3
import Derived.Deep.Slices
import Derived.IntWalk
import Derived.Laws.Rows
import Derived.Lib.Hide
import Derived.Maps.AppendAt
import Derived.OpenShut
import Derived.OwnWalk
import Derived.ProofKit
import Derived.ShutString
import Derived.StillTailTactics
import Derived.Test.YtcblhjhabhjbkaaProg
import Derived.Test.YtcblhjhabhjbkaaRows
import Derived.WalkKit
import Derived.WalkLawsBesides
import Derived.WalkSpells
import Derived.Test.YtcblhjhabhjbkaaZ26
import Derived.Test.YtcblhjhabhjbkaaZ37
import Derived.Test.YtcblhjhabhjbkaaZ38
import Derived.Test.YtcblhjhabhjbkaaZ47
set_option linter.unusedVariables false
set_option linter.unusedSimpArgs false
namespace Go.Proofs.Ytcblhjhabhjbkaa
open Go.RowKit
attribute [local go_sem ↓] Go.wp_at_zero Go.wp_at_succ
/-- The words of the first i messages. -/
def encsTo (F : FD) (n : Nat) (m N : List (List Int)) (i : Nat) : List (List Int) := (N.take i).map fun msg => encTo F n m msg m.length
theorem encsTo_len (F : FD) (n : Nat) (m N : List (List Int)) {i : Nat} (hi : i ≤ N.length) : (encsTo F n m N i).length = i := by rw [encsTo, List.length_map, List.length_take]; omega
theorem encsTo_succ (F : FD) (n : Nat) (m N : List (List Int)) {i : Nat} (hi : i < N.length) : encsTo F n m N (i + 1) = encsTo F n m N i ++ [encTo F n m (nthL N i) m.length] := by rw [encsTo, encsTo, take_nthL hi, List.map_append]; rfl
theorem encsTo_Mat {F : FD} (ok : F.Ok) (n : Nat) (m N : List (List Int)) (i : Nat) : F.Mat n (encsTo F n m N i) := by
  intro xs hx
  rw [encsTo, List.mem_map] at hx
  obtain ⟨msg, _, rfl⟩ := hx
  exact ⟨encTo_len _ _ _ _ _, encTo_el ok _ _ _ _⟩
theorem gram_Mat {F : FD} (ok : F.Ok) (m : List (List Int)) : F.Mat m.length (gram F m) := by
  intro xs hx
  rw [gram, List.mem_map] at hx
  obtain ⟨r, _, rfl⟩ := hx
  refine ⟨by rw [List.length_map], fun x hx => ?_⟩
  rw [List.mem_map] at hx
  obtain ⟨s, _, rfl⟩ := hx
  exact dotF_bd ok _ _
theorem gram_len (F : FD) (m : List (List Int)) : (gram F m).length = m.length := by rw [gram, List.length_map]
/-- The words that are orthogonal to all words. -/
def hullW (F : FD) (n : Nat) (m : List (List Int)) : List (List Int) := encsTo F n m (nul F (gram F m) m.length) (nul F (gram F m) m.length).length
def hullRes (p d : Int) (xs : List Int) (m : List (List Int)) : Int × Int × List Int × List (List Int) × Int := if okC p d xs m = true then mkC (fdR p d xs) (form (fdR p d xs) (hullW (fdR p d xs) (nthL m 0).length m) (nthL m 0).length) else (0, 0, [], [], 1)
theorem nul_len_le (F : FD) (m : List (List Int)) (n : Nat) : (nul F m n).length ≤ n := by
  have h1 := red_piv F (nulB F m n) n
  have h2 : (nulB F m n).length ≤ n := nulTo_le _ _ _ _ _
  have h3 := form_len F (nulB F m n) n
  rw [nul]
  omega
set_option maxRecDepth 100000 in
set_option maxHeartbeats 3200000 in
theorem implHU_any (p d : Int) (a : Option Addr) (c : Nat) (xs : List Int) (ra : Option Addr) (rc : Nat) (m : List (List Int)) (w : World) (hx : Rd w a xs) (hm : RdS w ra m) (ed : I64 d) : Calls Try.prog 14 #[.agg #[.int .i64 p, .int .i64 d, .slice a xs.length c, .slice ra m.length rc]] w (ResC w (hullRes p d xs m)) := by
  have hml := hm.len
  generalize hR : hullRes p d xs m = r
  obtain ⟨W0, hHW⟩ : ∃ z, z = (w.alloc (.cells #[.int .i64 p, .int .i64 d, .slice a xs.length c, .slice ra m.length rc] 31)).alloc (.cells #[.int .i64 0, .int .i64 0, .slice none 0 0, .slice none 0 0] 31) := ⟨_, rfl⟩
  have b0 : Below w.heap.size w W0 := by rw [hHW]; exact ((Below.refl _ _).alloc (Nat.le_refl _) _).alloc (by simp) _
  have k0 : Blk W0 w.heap.size 31 #[.int .i64 p, .int .i64 d, .slice a xs.length c, .slice ra m.length rc] := by rw [hHW]; exact (Blk.new _ _ _ rfl).alloc _
  have kr : Blk W0 (w.heap.size + 1) 31 #[.int .i64 0, .int .i64 0, .slice none 0 0, .slice none 0 0] := by rw [hHW]; exact Blk.new _ _ _ (by simp)
  have sk0 : w.heap.size + 1 < W0.heap.size := kr.lt
  have sk1 : w.heap.size ≤ W0.heap.size := by omega
  have HW := Lib.hid hHW
  clear hHW
  have hV := implVC_any p d a c xs ra rc m W0 (hx.below b0) (hm.below b0) ed
  cases hk : okC p d xs m with
  | false =>
    have HN := Lib.hid (show r = (0, 0, [], [], 1) by rw [← hR, hullRes, hk]; rfl)
    rw [hk] at hV
    have HV := hide hV
    clear hV hk hR
    have f0 := k0.cell 0
    have f1 := k0.cell 1
    have f2 := k0.cell 2
    have f3 := k0.cell 3
    go_enter Try.func14, Try.ntmps14
    go_upto_region 1 with fail
    rw [← HW.out]
    go_wp2_with fail
    refine (unhide HV).mono ?_
    rintro e w1 ⟨rfl, b1⟩
    have k1 := k0.below b1 k0.lt
    have kr1 := kr.below b1 kr.lt
    clear f0 f1 f2 f3
    have f0 := k1.cell 0
    have f1 := k1.cell 1
    have f2 := k1.cell 2
    have f3 := k1.cell 3
    have bb1 := b0.trans (b1.mono sk1)
    have z1 := b1.size
    have r0 := kr1.cell 0
    have r1 := kr1.cell 1
    have r2 := kr1.cell 2
    have r3 := kr1.cell 3
    have s0 := kr1.frozen 0
    have s1 := kr1.frozen 1
    have s2 := kr1.frozen 2
    have s3 := kr1.frozen 3
    go_wp2
    refine bodyPost_ret (results_cell_tmp_row rfl _ _ (w.heap.size + 1) 31 #[.int .i64 0, .int .i64 0, .slice none 0 0, .slice none 0 0] _ rfl (kr1.b4.store _ _ _ _) Try.underlying31 rfl (by kernel_rfl)) rfl ?_
    rw [HN.out]
    exact ⟨_, _, rfl, OwnC.nil _ _, Below.set4 bb1 (by omega) _ _ _ _⟩
  | true =>
    obtain ⟨F, n, rfl, rfl, rfl, hC⟩ := okC_gc hk
    have ok := hC.good.ok
    obtain ⟨n2, n64⟩ := ok.n_bd
    have hm1 := hC.m1
    have hm0 : 0 < m.length := by omega
    have hm8 := hC.m8
    have hn1 := hC.n1
    have hn32 := hC.n32
    rw [hk] at hV
    have HV := hide hV
    have hRR : r = mkC F (form F (hullW F n m) n) := by rw [← hR, hullRes, hk, fdR_eq, hC.hn]; rfl
    clear hV hk hR
    have hG := hC.good
    have hNM := nul_Mat ok (gram F m) m.length
    have hgM := gram_Mat ok m
    have hgl := gram_len F m
    have hNl := nul_len_le F (gram F m) m.length
    have hpa : prodTo F m m m.length = gram F m := by rw [prodTo, List.take_length, gram]
    have hhw : hullW F n m = encsTo F n m (nul F (gram F m) m.length) (nul F (gram F m) m.length).length := rfl
    obtain ⟨G, hGG⟩ : ∃ G, G = gram F m := ⟨_, rfl⟩
    rw [← hGG] at hNM hgM hgl hNl hpa hhw
    have hT := fun W (h : Below W0.heap.size W0 W) => tablesOf_any F a c W ((hx.below b0).below h) ok
    have hP := fun W (h : Below W0.heap.size W0 W) => products_any F a c ra rc m n W ((hx.below b0).below h) ((hm.below b0).below h) hC
    rw [← hGG] at hP
    have hNS : ∀ tv ga gc W (_ : Tabs W F tv) (_ : RdS W ga G), Calls Try.prog 48 #[tv, .slice ga G.length gc, .int .i64 m.length] W fun e w' => ∃ u, e = .returned u ∧ OwnS w' W.heap.size u (nul F G m.length) ∧ Below W.heap.size W w' := fun tv ga gc W hT hr => nullSpace_any F tv ga gc G m.length W hT hG hr (by omega) hgM hm1 (by omega)
    obtain ⟨N, hN⟩ : ∃ N, N = nul F G m.length := ⟨_, rfl⟩
    rw [← hN] at hNS hNM hNl hhw
    have hEN := fun tv (i : Nat) (hi : i < N.length) b cb W (h : Below W0.heap.size W0 W) (hT : Tabs W F tv) (hy : Rd W b (nthL N i)) => encode_any F tv ra rc m b cb (nthL N i) n W hT hG ((hm.below b0).below h) hy hm0 hC.mat hn1 hn32 (by rw [(Mat_nth hNM hi).1]; exact Nat.le_refl _) (Mat_nth hNM hi).2
    have hEN2 : ∀ tv (i : Nat) (_ : i < N.length) b cb W (_ : Below W0.heap.size W0 W) (_ : Tabs W F tv) (_ : Rd W b (nthL N i)), Calls Try.prog 50 #[tv, .slice ra m.length rc, .slice b m.length cb] W fun e w' => ∃ u, e = .returned u ∧ Own w' W.heap.size u (encTo F n m (nthL N i) m.length) ∧ Below W.heap.size W w' := fun tv i hi b cb W h hT hy => by
      have q := hEN tv i hi b cb W h hT hy
      rw [(Mat_nth hNM hi).1] at q
      exact q
    have hNL2 : ∀ i, i < N.length → (nthL N i).length = m.length := fun i hi => (Mat_nth hNM hi).1
    have heM := encsTo_Mat ok n m N N.length
    rw [hhw] at hRR
    obtain ⟨E, hE⟩ : ∃ E, E = encsTo F n m N N.length := ⟨_, rfl⟩
    rw [← hE] at hRR heM
    have hCO := fun b d W (h : Below W0.heap.size W0 W) (hy : RdS W b E) => codeOf_all F a c b d E n W ((hx.below b0).below h) hG hy heM
    have hEL := fun i => encTo_len F n m (nthL N i) m.length
    have HT := hide hT
    have HP := hide hP
    have HNS := hide hNS
    have HEN := hide hEN2
    have HNL := hide hNL2
    have HCO := hide hCO
    have HE := Lib.hid hE
    have HEL := hide hEL
    have HRR := Lib.hid hRR
    have BX := hide (show ∀ W, Below W0.heap.size W0 W → Blk W w.heap.size 31 #[.int .i64 F.p, .int .i64 F.k, .slice a F.poly.length c, .slice ra m.length rc] from fun W h => k0.below h k0.lt)
    clear hT hP hNS hEN hEN2 hNL2 hCO hE hN hGG hNM hgM hpa hhw hC hRR heM hgl hEL
    have f0 := k0.cell 0
    have f1 := k0.cell 1
    have f2 := k0.cell 2
    have f3 := k0.cell 3
    go_enter Try.func14, Try.ntmps14
    go_upto_region 1 with fail
    rw [← HW.out]
    go_wp2_with fail
    refine (unhide HV).mono ?_
    rintro e w1 ⟨rfl, b1⟩
    have k1 := k0.below b1 k0.lt
    have kr1 := kr.below b1 kr.lt
    clear f0 f1 f2 f3
    have f0 := k1.cell 0
    have f1 := k1.cell 1
    have f2 := k1.cell 2
    have f3 := k1.cell 3
    have bb1 := b0.trans (b1.mono sk1)
    have z1 := b1.size
    go_wp2_with fail
    refine (unhide HT _ b1).mono ?_
    rintro e w2 ⟨tv, rfl, t2, b2⟩
    obtain ⟨aA, cA, aS, cS, aM, cM, aI, cI, rfl, t2A, t2S, t2M, t2I⟩ := t2
    obtain ⟨W3, hH3⟩ : ∃ z, z = w2.alloc (.cells #[.int .i64 F.n, .slice aA F.n cA, .slice aS F.n cS, .slice aM F.n cM, .slice aI F.n cI] 62) := ⟨_, rfl⟩
    have b3 : Below w2.heap.size w2 W3 := by rw [hH3]; exact (Below.refl _ _).alloc (Nat.le_refl _) _
    have kT : Blk W3 w2.heap.size 62 #[.int .i64 F.n, .slice aA F.n cA, .slice aS F.n cS, .slice aM F.n cM, .slice aI F.n cI] := by rw [hH3]; exact Blk.new _ _ _ rfl
    have H3 := Lib.hid hH3
    clear hH3
    have t3 : Tabs W3 F (.agg #[.int .i64 F.n, .slice aA F.n cA, .slice aS F.n cS, .slice aM F.n cM, .slice aI F.n cI]) := ⟨aA, cA, aS, cS, aM, cM, aI, cI, rfl, t2A.below b3, t2S.below b3, t2M.below b3, t2I.below b3⟩
    have c3 := Below.chain (Below.chain b1 b2) b3
    have T3 := hide t3
    have KT := hide kT
    clear t3 t2A t2S t2M t2I f0 f1 f2 f3
    go_upto_region 5 with fail
    rw [← H3.out]
    have BR := hide (show ∀ W, Below W3.heap.size W3 W → (Below W3.heap.size W3 W ∧ (W.cell? ⟨w.heap.size, 0, none⟩ = some (.int .i64 F.p) ∧ W.cell? ⟨w.heap.size, 1, none⟩ = some (.int .i64 F.k) ∧ W.cell? ⟨w.heap.size, 2, none⟩ = some (.slice a F.poly.length c) ∧ W.cell? ⟨w.heap.size, 3, none⟩ = some (.slice ra m.length rc)) ∧ W.cell? ⟨w2.heap.size, 0, none⟩ = some (.int .i64 F.n) ∧ W.cell? ⟨w2.heap.size, 1, none⟩ = some (.slice aA F.n cA) ∧ W.cell? ⟨w2.heap.size, 2, none⟩ = some (.slice aS F.n cS) ∧ W.cell? ⟨w2.heap.size, 3, none⟩ = some (.slice aM F.n cM) ∧ W.cell? ⟨w2.heap.size, 4, none⟩ = some (.slice aI F.n cI)) from fun W h => by
      have k := unhide BX W (Below.chain c3 h)
      have kt := (unhide KT).below h (unhide KT).lt
      exact ⟨h, ⟨k.cell 0, k.cell 1, k.cell 2, k.cell 3⟩, kt.cell 0, kt.cell 1, kt.cell 2, kt.cell 3, kt.cell 4⟩)
    refine wp_region_noPanic ?_
    refine wp_region_ord (S := (fun W => Below W3.heap.size W3 W ∧ (W.cell? ⟨w.heap.size, 0, none⟩ = some (.int .i64 F.p) ∧ W.cell? ⟨w.heap.size, 1, none⟩ = some (.int .i64 F.k) ∧ W.cell? ⟨w.heap.size, 2, none⟩ = some (.slice a F.poly.length c) ∧ W.cell? ⟨w.heap.size, 3, none⟩ = some (.slice ra m.length rc)) ∧ W.cell? ⟨w2.heap.size, 0, none⟩ = some (.int .i64 F.n) ∧ W.cell? ⟨w2.heap.size, 1, none⟩ = some (.slice aA F.n cA) ∧ W.cell? ⟨w2.heap.size, 2, none⟩ = some (.slice aS F.n cS) ∧ W.cell? ⟨w2.heap.size, 3, none⟩ = some (.slice aM F.n cM) ∧ W.cell? ⟨w2.heap.size, 4, none⟩ = some (.slice aI F.n cI))) [(true, 0), (true, 1), (true, 3), (true, 4), (true, 5), (true, 8), (false, 2), (false, 6), (true, 7)] (by kernel_rfl) (by kernel_rfl) (by kernel_rfl) rfl (fun _ _ _ _ _ h => h) ?_ (fun hHeld => ?_)
    · exact (unhide BR) _ (Below.refl _ _).drew
    refine SeqO.take (by rfl) (v := ?hv1) (by rfl) ?hy1 ?hr1
    case hy1 =>
      intro w hSw
      try dsimp only at hSw
      go_simp
      try (with_reducible rfl)
    try simp only [Act.put, List.setIfInBounds_toArray, List.set_cons_zero, List.set_cons_succ]
    refine SeqO.take (by rfl) (v := ?hv2) (by rfl) ?hy2 ?hr2
    case hy2 =>
      intro w hSw
      try dsimp only at hSw
      go_simp
      try (with_reducible rfl)
    try simp only [Act.put, List.setIfInBounds_toArray, List.set_cons_zero, List.set_cons_succ]
    refine SeqO.take (by rfl) (v := ?hv3) (by rfl) ?hy3 ?hr3
    case hy3 =>
      intro w hSw
      try dsimp only at hSw
      go_simp
      try (with_reducible rfl)
    try simp only [Act.put, List.setIfInBounds_toArray, List.set_cons_zero, List.set_cons_succ]
    refine SeqO.take (by rfl) (v := ?hv4) (by rfl) ?hy4 ?hr4
    case hy4 =>
      intro w hSw
      try dsimp only at hSw
      go_simp
      try (with_reducible rfl)
    try simp only [Act.put, List.setIfInBounds_toArray, List.set_cons_zero, List.set_cons_succ]
    refine SeqO.take (by rfl) (v := ?hv5) (by rfl) ?hy5 ?hr5
    case hy5 =>
      intro w hSw
      try dsimp only at hSw
      go_simp
      try (with_reducible rfl)
    try simp only [Act.put, List.setIfInBounds_toArray, List.set_cons_zero, List.set_cons_succ]
    refine SeqO.take (by rfl) (v := ?hv6) (by rfl) ?hy6 ?hr6
    case hy6 =>
      intro w hSw
      try dsimp only at hSw
      go_simp
      try (with_reducible rfl)
    try simp only [Act.put, List.setIfInBounds_toArray, List.set_cons_zero, List.set_cons_succ]
    refine SeqO.call (by rfl) (fun K hK => ?_)
    go_simp
    refine (unhide HP _ (Below.chain c3 (And.left hHeld))).mono ?_
    rintro e w4 ⟨u4, rfl, o4, b4⟩
    obtain ⟨ga, gc, rfl, r4⟩ := o4.form
    have hB4 := Below.chain (And.left hHeld) b4
    go_wp2_with fail
    refine hK.out _ _ ?_ (fun hHeld => ?_)
    · exact (unhide BR) _ hB4
    clear hK K
    try simp only [Act.put, List.setIfInBounds_toArray, List.set_cons_zero, List.set_cons_succ]
    refine SeqO.call (by rfl) (fun K hK => ?_)
    go_simp
    refine (unhide HNS _ ga gc _ ((unhide T3).below hB4) r4).mono ?_
    rintro e w5 ⟨u5, rfl, o5, b5⟩
    obtain ⟨na, nc, rfl, r5⟩ := o5.form
    have hB5 := Below.chain hB4 b5
    go_wp2_with fail
    refine hK.out _ _ ?_ (fun hHeld => ?_)
    · exact (unhide BR) _ hB5
    clear hK K
    try simp only [Act.put, List.setIfInBounds_toArray, List.set_cons_zero, List.set_cons_succ]
    refine SeqO.take (by rfl) (v := ?hv7) (by rfl) ?hy7 ?hr7
    case hy7 =>
      intro w hSw
      try dsimp only at hSw
      go_simp
      try (with_reducible rfl)
    try simp only [Act.put, List.setIfInBounds_toArray, List.set_cons_zero, List.set_cons_succ]
    refine SeqO.done (NoPanic.normal ?_)
    have c5 := Below.chain c3 hB5
    have KB5 := hide (unhide BX w5 c5)
    have KT5 := hide ((unhide KT).below hB5 (unhide KT).lt)
    have T5 := hide ((unhide T3).below hB5)
    have R5 := hide r5
    have z5 := c5.size
    clear o4 o5 r4 r5
    go_wp2_with fail
    go_loopw [5, 23] (fun v iv wr => ∃ i : Nat, iv = .int .i64 i ∧ i ≤ N.length ∧ Hid (OwnS wr w5.heap.size v (encsTo F n m N i)) ∧ Below w5.heap.size w5 wr) (fun _ iv _ => N.length - (intOf iv).toNat)
    case atStart => exact ⟨0, rfl, Nat.zero_le _, OwnS.nil _ _, Below.refl _ _⟩
    case round =>
      obtain ⟨i, rfl, hi, ho, hb⟩ := hrel
      have hsz := hb.size
      by_cases hil : i < N.length
      · obtain ⟨gn, on, rfl, _, hcn⟩ := ((unhide R5).below hb).at_ (by omega)
        obtain ⟨ak, ck, h1, hrk⟩ := hcn i hil
        rw [unhide HNL i hil] at h1
        have hd := unhide HEN _ i hil ak ck wr (Below.chain c5 hb) ((unhide T5).below hb) hrk
        have hst := encsTo_succ F n m N hil
        have hsl := encsTo_len F n m N hi
        have hel := unhide HEL i
        obtain ⟨wd, hwd⟩ : ∃ wd, wd = encTo F n m (nthL N i) m.length := ⟨_, rfl⟩
        rw [← hwd] at hd hst hel
        have HD := hide hd
        have HST := Lib.hid hst
        have HSL := Lib.hid hsl
        have kk := (unhide KT5).below hb (unhide KT5).lt
        have kb := (unhide KB5).below hb (unhide KB5).lt
        have g0 := kk.cell 0
        have g1 := kk.cell 1
        have g2 := kk.cell 2
        have g3 := kk.cell 3
        have g4 := kk.cell 4
        have f3 := kb.cell 3
        clear hd hst hsl hwd hcn hrk hel
        go_wp2_with fail
        refine (unhide HD).mono ?_
        rintro e w6 ⟨v6, rfl, o6, b6⟩
        obtain ⟨a6, c6, rfl⟩ := o6.slice_val
        have hH := ho.out.toH.belw b6 (Nat.le_refl _)
        have hb6 := hb.trans (b6.mono hsz)
        have z6 := b6.size
        go_wp2_with (at_builtin; refine wpList_append_row rfl (.tmp 27) (.tmp 33) rfl (v := u5) rfl (hH.belw ((Below.refl _ _).alloc (Nat.le_refl _) _) z6) _ rfl ((Blk.new w6 22 #[.slice a6 wd.length c6] rfl).cell 0) (o6.alloc _) hsz (by simp; omega) (by rw [HSL.out]; omega) ?_; intro v7 w7 o7 g7 _)
        go_roundw
        case rel =>
          refine ⟨i + 1, by go_num, by omega, ?_, Below.stepS (hb6.alloc (by omega) _) g7 (hH.belw ((Below.refl _ _).alloc (Nat.le_refl _) _) z6).own (Nat.le_refl _) (by simp; omega)⟩
          show OwnS _ _ _ _
          rw [HST.out]
          exact o7
        case measure => simp only [intOf]; omega
      · have hke : i = N.length := by omega
        have HK := Lib.hid hke
        clear hke
        have oE := ho.out
        rw [HK.out, ← HE.out] at oE
        obtain ⟨ea, ec, rfl, rE⟩ := oE.form
        have cE := Below.chain c5 hb
        have hcd := unhide HCO ea ec wr cE rE
        have HCD := hide hcd
        have kb := (unhide KB5).below hb (unhide KB5).lt
        have f0 := kb.cell 0
        have f1 := kb.cell 1
        have f2 := kb.cell 2
        have zE := cE.size
        have p3 : w.heap.size + 1 < wr.heap.size := by omega
        clear hcd oE rE ho
        go_wp2_with fail
        refine (unhide HCD).mono ?_
        rintro e w8 ⟨v8, u8, rfl, o4, b8⟩
        have c8 := Below.chain cE b8
        have bb8 := b0.trans (c8.mono sk1)
        have kr8 := kr.below c8 kr.lt
        obtain ⟨qq, hqq⟩ : ∃ qq, qq = mkC F (form F E n) := ⟨_, rfl⟩
        rw [← hqq] at o4 ⊢
        obtain ⟨rp, rd, rx, ry, rz⟩ := qq
        simp only [] at o4 ⊢
        obtain ⟨a4, c4, p4, d4, rfl, rfl, _, _⟩ := o4.form
        have HQ := Lib.hid hqq
        clear hqq
        have r0 := kr8.cell 0
        have r1 := kr8.cell 1
        have r2 := kr8.cell 2
        have r3 := kr8.cell 3
        have s0 := kr8.frozen 0
        have s1 := kr8.frozen 1
        have s2 := kr8.frozen 2
        have s3 := kr8.frozen 3
        go_wp2
        refine bodyPost_ret (results_cell_tmp_row rfl _ _ (w.heap.size + 1) 31 #[.int .i64 rp, .int .i64 rd, .slice a4 rx.length c4, .slice p4 ry.length d4] _ rfl (kr8.b4.store _ _ _ _) Try.underlying31 rfl (by kernel_rfl)) rfl ?_
        rw [HRR.out, ← HQ.out]
        refine ⟨_, _, rfl, ?_, Below.set4 bb8 (by omega) _ _ _ _⟩
        exact ((((o4.storeBelow p3 _).storeBelow p3 _).storeBelow p3 _).storeBelow p3 _).mono (by omega)
set_option maxRecDepth 100000 in
set_option maxHeartbeats 6400000 in
theorem specHU_any (p d : Int) (a : Option Addr) (c : Nat) (xs : List Int) (ra : Option Addr) (rc : Nat) (m : List (List Int)) (w : World) (hx : Rd w a xs) (hm : RdS w ra m) : Calls Try.prog 12 #[.agg #[.int .i64 p, .int .i64 d, .slice a xs.length c, .slice ra m.length rc]] w (SpC w w.heap.size (hullRes p d xs m)) := by
  have hml := hm.len
  generalize hR : hullRes p d xs m = r
  obtain ⟨W0, hHW⟩ : ∃ z, z = (w.alloc (.cells #[.int .i64 p, .int .i64 d, .slice a xs.length c, .slice ra m.length rc] 31)).alloc (.cells #[.int .i64 0, .int .i64 0, .slice none 0 0, .slice none 0 0] 31) := ⟨_, rfl⟩
  have b0 : Below w.heap.size w W0 := by rw [hHW]; exact ((Below.refl _ _).alloc (Nat.le_refl _) _).alloc (by simp) _
  have k0 : Blk W0 w.heap.size 31 #[.int .i64 p, .int .i64 d, .slice a xs.length c, .slice ra m.length rc] := by rw [hHW]; exact (Blk.new _ _ _ rfl).alloc _
  have kr : Blk W0 (w.heap.size + 1) 31 #[.int .i64 0, .int .i64 0, .slice none 0 0, .slice none 0 0] := by rw [hHW]; exact Blk.new _ _ _ (by simp)
  have sk0 : w.heap.size + 1 < W0.heap.size := kr.lt
  have sk1 : w.heap.size ≤ W0.heap.size := by omega
  have HW := Lib.hid hHW
  clear hHW
  have hC0 : PC W0 w.heap.size p d a c xs ra rc m := ⟨⟨k0.cell 0, k0.cell 1, k0.cell 2, hx.below b0⟩, k0.cell 3, hm.below b0⟩
  have hV := l18Ok_any w.heap.size p d a c xs ra rc m W0 hC0
  cases hk : okC p d xs m with
  | false =>
    have HN := Lib.hid (show r = (0, 0, [], [], 1) by rw [← hR, hullRes, hk]; rfl)
    rw [hk] at hV
    have HV := hide hV
    clear hV hk hR hC0
    have f0 := k0.cell 0
    have f1 := k0.cell 1
    have f2 := k0.cell 2
    have f3 := k0.cell 3
    go_enter Try.func12, Try.ntmps12
    go_upto_region 1 with fail
    rw [← HW.out]
    go_wp2_with fail
    refine (unhide HV).mono ?_
    rintro e w1 ⟨rfl, b1⟩
    have k1 := k0.below b1 k0.lt
    have kr1 := kr.below b1 kr.lt
    clear f0 f1 f2 f3
    have f0 := k1.cell 0
    have f1 := k1.cell 1
    have f2 := k1.cell 2
    have f3 := k1.cell 3
    have bb1 := b0.trans (b1.mono sk1)
    have z1 := b1.size
    have r0 := kr1.cell 0
    have r1 := kr1.cell 1
    have r2 := kr1.cell 2
    have r3 := kr1.cell 3
    have s0 := kr1.frozen 0
    have s1 := kr1.frozen 1
    have s2 := kr1.frozen 2
    have s3 := kr1.frozen 3
    go_wp2
    refine bodyPost_ret (results_cell_tmp_row rfl _ _ (w.heap.size + 1) 31 #[.int .i64 0, .int .i64 0, .slice none 0 0, .slice none 0 0] _ rfl (kr1.b4.store _ _ _ _) Try.underlying31 rfl (by kernel_rfl)) rfl ?_
    rw [HN.out]
    exact ⟨_, _, rfl, Own.nil _ _, OwnS.nil _ _, Below.set4 bb1 (by omega) _ _ _ _⟩
  | true =>
    obtain ⟨F, n, rfl, rfl, rfl, hC⟩ := okC_gc hk
    have ok := hC.good.ok
    obtain ⟨n2, n64⟩ := ok.n_bd
    have hm1 := hC.m1
    have hm0 : 0 < m.length := by omega
    have hm8 := hC.m8
    have hn1 := hC.n1
    have hn32 := hC.n32
    rw [hk] at hV
    have HV := hide hV
    have hRR : r = mkC F (form F (hullW F n m) n) := by rw [← hR, hullRes, hk, fdR_eq, hC.hn]; rfl
    clear hV hk hR
    have hG := hC.good
    have hNM := nul_Mat ok (gram F m) m.length
    have hgM := gram_Mat ok m
    have hgl := gram_len F m
    have hNl := nul_len_le F (gram F m) m.length
    have hpa : prodTo F m m m.length = gram F m := by rw [prodTo, List.take_length, gram]
    have hhw : hullW F n m = encsTo F n m (nul F (gram F m) m.length) (nul F (gram F m) m.length).length := rfl
    obtain ⟨G, hGG⟩ : ∃ G, G = gram F m := ⟨_, rfl⟩
    rw [← hGG] at hNM hgM hgl hNl hpa hhw
    have hgb0 := hm.len
    obtain ⟨gb, ob, rfl, hgb, hcc⟩ := hC0.2.2.at_ hm0
    have hcc2 : ∀ k, k < m.length → ∃ ak ck, W0.cell? ⟨gb, ob + k, none⟩ = some (.slice ak n ck) ∧ Rd W0 ak (nthL m k) := fun k hk => by
      obtain ⟨ak, ck, h1, h2⟩ := hcc k hk
      rw [(Mat_nth hC.mat hk).1] at h1
      exact ⟨ak, ck, h1, h2⟩
    have hDT := fun (i k : Nat) (hi : i < m.length) (hk : k < m.length) a1 c1 a2 c2 W (h : Below W0.heap.size W0 W) (r1 : Rd W0 a1 (nthL m i)) (r2 : Rd W0 a2 (nthL m k)) => (l17Dot_any w.heap.size F a1 a2 c1 c2 (nthL m i) (nthL m k) n W (hC0.below h).1.pf ok (r1.below h) (r2.below h) (Mat_nth hC.mat hi).1 (Mat_nth hC.mat hk).1 (Mat_nth hC.mat hi).2 (Mat_nth hC.mat hk).2)
    have hNS := fun ga gc W (h : Below W0.heap.size W0 W) (hr : RdS W ga G) => l17Null_any w.heap.size F ga gc G m.length W (hC0.below h).1.pf hG hr (by omega) hgM hm1 (by omega)
    obtain ⟨N, hN⟩ : ∃ N, N = nul F G m.length := ⟨_, rfl⟩
    rw [← hN] at hNS hNM hNl hhw
    have hEN2 : ∀ (i : Nat) (_ : i < N.length) b cb W (_ : Below W0.heap.size W0 W) (_ : Rd W b (nthL N i)), Calls Try.prog 41 #[.pointer (some ⟨w.heap.size, 0, none⟩), .slice b m.length cb] W fun e w' => ∃ u, e = .returned u ∧ Own w' W.heap.size u (encTo F n m (nthL N i) m.length) ∧ Below W.heap.size W w' := fun i hi b cb W h hy => by
      have q := l18Encode_any w.heap.size F (some ⟨gb, ob, none⟩) rc m b cb (nthL N i) n W (hC0.below h).1.pf hG (hC0.below h).2.1 (hC0.below h).2.2 hy hm0 hC.mat hn1 hn32 (by rw [(Mat_nth hNM hi).1]; exact Nat.le_refl _) (Mat_nth hNM hi).2
      rw [(Mat_nth hNM hi).1] at q
      exact q
    have hNL2 : ∀ i, i < N.length → (nthL N i).length = m.length := fun i hi => (Mat_nth hNM hi).1
    have heM := encsTo_Mat ok n m N N.length
    have hel2 := encsTo_len F n m N (Nat.le_refl N.length)
    rw [hhw] at hRR
    obtain ⟨E, hE⟩ : ∃ E, E = encsTo F n m N N.length := ⟨_, rfl⟩
    rw [← hE] at hRR heM hel2
    have hFO := fun b d W (h : Below W0.heap.size W0 W) (hy : RdS W b E) (h0 : 0 < E.length) => l17Form_any w.heap.size F b d E n W (hC0.below h).1.pf hG hy h0 heM
    have hPF := hC0.1.pf
    have hc3 := k0.cell 3
    have HDT := hide hDT
    have HCC := hide hcc2
    have HNS := hide hNS
    have HEN := hide hEN2
    have HNL := hide hNL2
    have HFO := hide hFO
    have HPF := hide hPF
    have HE := Lib.hid hE
    have HEL := Lib.hid hel2
    have HPA := Lib.hid hpa
    have HRR := Lib.hid hRR
    have HGL := Lib.hid hgl
    have KB := hide (show ∀ W, Below W0.heap.size W0 W → Blk W w.heap.size 31 #[.int .i64 F.p, .int .i64 F.k, .slice a F.poly.length c, .slice (some ⟨gb, ob, none⟩) m.length rc] from fun W h => k0.below h k0.lt)
    clear hDT hcc2 hNS hEN2 hNL2 hFO hE hN hGG hNM hgM hpa hhw hC hRR heM hgl hel2 hcc hC0 hPF
    have f0 := k0.cell 0
    have f1 := k0.cell 1
    have f2 := k0.cell 2
    have f3 := k0.cell 3
    go_enter Try.func12, Try.ntmps12
    go_upto_region 1 with fail
    rw [← HW.out]
    go_wp2_with fail
    refine (unhide HV).mono ?_
    rintro e w1 ⟨rfl, b1⟩
    have k1 := k0.below b1 k0.lt
    have kr1 := kr.below b1 kr.lt
    clear f0 f1 f2 f3
    have f0 := k1.cell 0
    have f1 := k1.cell 1
    have f2 := k1.cell 2
    have f3 := k1.cell 3
    have bb1 := b0.trans (b1.mono sk1)
    have z1 := b1.size
    go_wp2_with fail
    go_loopw [4, 5] (fun v iv wr => ∃ i : Nat, iv = .int .i64 i ∧ i ≤ m.length ∧ Hid (OwnS wr w1.heap.size v (prodTo F m m i)) ∧ Below w1.heap.size w1 wr) (fun _ iv _ => m.length - (intOf iv).toNat)
    case atStart => exact ⟨0, rfl, Nat.zero_le _, OwnS.empty w1 (Nat.le_refl _), (Below.refl _ _).alloc (Nat.le_refl _) _⟩
    case round =>
      obtain ⟨i, rfl, hi, ho, hb⟩ := hrel
      rename World => wo
      have hsz := hb.size
      have co := Below.chain b1 hb
      have c3 := (unhide KB wo co).cell 3
      by_cases hil : i < m.length
      · obtain ⟨ax, cx, hx1, hxr⟩ := unhide HCC i hil
        have HXR := hide hxr
        clear hxr
        go_wp2_with fail
        go_loopw [6, 7] (fun v kv wr => ∃ k : Nat, kv = .int .i64 k ∧ k ≤ m.length ∧ Hid (Own wr wo.heap.size v (lineTo F (nthL m i) m k)) ∧ Below wo.heap.size wo wr) (fun _ kv _ => m.length - (intOf kv).toNat)
        case atStart => exact ⟨0, rfl, Nat.zero_le _, Own.empty wo (Nat.le_refl _), (Below.refl _ _).alloc (Nat.le_refl _) _⟩
        case round =>
          obtain ⟨k, rfl, hk, ho2, hb2⟩ := hrel
          have hz2 := hb2.size
          have cr := Below.chain co hb2
          have c3r := (unhide KB wr cr).cell 3
          by_cases hkl : k < m.length
          · obtain ⟨ay, cy, hy1, hyr⟩ := unhide HCC k hkl
            have hd := fun W (h : Below wo.heap.size wo W) => unhide HDT i k hil hkl ax cx ay cy W (Below.chain co h) (unhide HXR) hyr
            have hst := lineTo_succ F (nthL m i) m hkl
            have hsl := lineTo_len F (nthL m i) m hk
            obtain ⟨D, hD⟩ : ∃ D, D = dotF F (nthL m i) (nthL m k) := ⟨_, rfl⟩
            rw [← hD] at hd hst
            have HD := hide hd
            have HST := Lib.hid hst
            have HSL := Lib.hid hsl
            have BX := hide (show ∀ W, Below wo.heap.size wo W → (Below wo.heap.size wo W ∧ W.cell? ⟨w.heap.size, 3, none⟩ = some (.slice (some ⟨gb, ob, none⟩) m.length rc) ∧ W.cell? ⟨gb, ob + i, none⟩ = some (.slice ax n cx) ∧ W.cell? ⟨gb, ob + k, none⟩ = some (.slice ay n cy)) from fun W h => ⟨h, (unhide KB W (Below.chain co h)).cell 3, ((Below.chain co h).cell (p := ⟨gb, ob + i, none⟩) hgb).trans hx1, ((Below.chain co h).cell (p := ⟨gb, ob + k, none⟩) hgb).trans hy1⟩)
            have hAl : (lineTo F (nthL m i) m k).length + [D].length ≤ 1073741824 := by rw [hsl]; simp; omega
            clear hd hst hD hsl hyr
            go_upto_region 11 with fail
            refine wp_region_noPanic ?_
            refine wp_region_ord (S := (fun W => Below wo.heap.size wo W ∧ W.cell? ⟨w.heap.size, 3, none⟩ = some (.slice (some ⟨gb, ob, none⟩) m.length rc) ∧ W.cell? ⟨gb, ob + i, none⟩ = some (.slice ax n cx) ∧ W.cell? ⟨gb, ob + k, none⟩ = some (.slice ay n cy))) [(true, 0), (true, 1), (true, 2), (true, 3), (true, 4), (true, 5), (true, 6), (true, 7), (true, 8), (true, 9), (true, 10), (true, 11), (false, 12), (false, 13), (false, 14), (true, 15)] (by kernel_rfl) (by kernel_rfl) (by kernel_rfl) rfl (fun _ _ _ _ _ h => h) ?_ (fun hHeld => ?_)
            · exact (unhide BX) _ hb2.drew
            refine SeqO.take (by rfl) (v := ?hv8) (by rfl) ?hy8 ?hr8
            case hy8 =>
              intro w hSw
              try dsimp only at hSw
              go_simp
              try (with_reducible rfl)
            try simp only [Act.put, List.setIfInBounds_toArray, List.set_cons_zero, List.set_cons_succ]
            refine SeqO.take (by rfl) (v := ?hv9) (by rfl) ?hy9 ?hr9
            case hy9 =>
              intro w hSw
              try dsimp only at hSw
              go_simp
              try (with_reducible rfl)
            try simp only [Act.put, List.setIfInBounds_toArray, List.set_cons_zero, List.set_cons_succ]
            refine SeqO.take (by rfl) (v := ?hv10) (by rfl) ?hy10 ?hr10
            case hy10 =>
              intro w hSw
              try dsimp only at hSw
              go_simp
              try (with_reducible rfl)
            try simp only [Act.put, List.setIfInBounds_toArray, List.set_cons_zero, List.set_cons_succ]
            refine SeqO.take (by rfl) (v := ?hv11) (by rfl) ?hy11 ?hr11
            case hy11 =>
              intro w hSw
              try dsimp only at hSw
              go_simp
              try (with_reducible rfl)
            try simp only [Act.put, List.setIfInBounds_toArray, List.set_cons_zero, List.set_cons_succ]
            refine SeqO.take (by rfl) (v := ?hv12) (by rfl) ?hy12 ?hr12
            case hy12 =>
              intro w hSw
              try dsimp only at hSw
              go_simp
              try (with_reducible rfl)
            try simp only [Act.put, List.setIfInBounds_toArray, List.set_cons_zero, List.set_cons_succ]
            refine SeqO.take (by rfl) (v := ?hv13) (by rfl) ?hy13 ?hr13
            case hy13 =>
              intro w hSw
              try dsimp only at hSw
              go_simp
              try (with_reducible rfl)
            try simp only [Act.put, List.setIfInBounds_toArray, List.set_cons_zero, List.set_cons_succ]
            refine SeqO.take (by rfl) (v := ?hv14) (by rfl) ?hy14 ?hr14
            case hy14 =>
              intro w hSw
              try dsimp only at hSw
              go_simp
              try (with_reducible rfl)
            try simp only [Act.put, List.setIfInBounds_toArray, List.set_cons_zero, List.set_cons_succ]
            refine SeqO.take (by rfl) (v := ?hv15) (by rfl) ?hy15 ?hr15
            case hy15 =>
              intro w hSw
              try dsimp only at hSw
              go_simp
              try (with_reducible rfl)
            try simp only [Act.put, List.setIfInBounds_toArray, List.set_cons_zero, List.set_cons_succ]
            refine SeqO.take (by rfl) (v := ?hv16) (by rfl) ?hy16 ?hr16
            case hy16 =>
              intro w hSw
              try dsimp only at hSw
              go_simp
              try (with_reducible rfl)
            try simp only [Act.put, List.setIfInBounds_toArray, List.set_cons_zero, List.set_cons_succ]
            refine SeqO.take (by rfl) (v := ?hv17) (by rfl) ?hy17 ?hr17
            case hy17 =>
              intro w hSw
              try dsimp only at hSw
              go_simp
              try (with_reducible rfl)
            try simp only [Act.put, List.setIfInBounds_toArray, List.set_cons_zero, List.set_cons_succ]
            refine SeqO.take (by rfl) (v := ?hv18) (by rfl) ?hy18 ?hr18
            case hy18 =>
              intro w hSw
              try dsimp only at hSw
              go_simp
              try (with_reducible rfl)
            try simp only [Act.put, List.setIfInBounds_toArray, List.set_cons_zero, List.set_cons_succ]
            refine SeqO.take (by rfl) (v := ?hv19) (by rfl) ?hy19 ?hr19
            case hy19 =>
              intro w hSw
              try dsimp only at hSw
              go_simp
              try (with_reducible rfl)
            try simp only [Act.put, List.setIfInBounds_toArray, List.set_cons_zero, List.set_cons_succ]
            refine SeqO.call (by rfl) (fun K hK => ?_)
            go_simp
            refine (unhide HD _ (And.left hHeld)).mono ?_
            rintro e w4 ⟨rfl, b4⟩
            have hB4 := Below.chain (And.left hHeld) b4
            have hZ4 := hB4.size
            have o4 := (ho2.out.drewN 1).below b4 (Nat.le_refl _)
            go_wp2_with fail
            refine hK.out _ _ ?_ (fun hHeld => ?_)
            · exact (unhide BX) _ hB4
            clear hK K
            try simp only [Act.put, List.setIfInBounds_toArray, List.set_cons_zero, List.set_cons_succ]
            refine SeqO.call (by rfl) (fun K hK => ?_)
            go_simp

            refine hK.out _ _ ?_ (fun hHeld => ?_)
            · exact (unhide BX) _ (hB4.alloc hZ4 _)
            clear hK K
            try simp only [Act.put, List.setIfInBounds_toArray, List.set_cons_zero, List.set_cons_succ]
            refine SeqO.call (by rfl) (fun K hK => ?_)
            refine step_append_ints (ys := [D]) rfl (.tmp 30) (.tmp 43) rfl rfl (o4.alloc _) _ 1 1 rfl rfl (Rd.one w4 D _) hAl (alloc_le hZ4 _) ?_
            intro v5 W5 o5 g5 _
            have hB5 := Below.step (hB4.alloc hZ4 _) g5 (o4.alloc _) (Nat.le_refl _) (alloc_le hZ4 _)
            refine hK.out _ _ ?_ (fun hHeld => ?_)
            · exact (unhide BX) _ hB5
            clear hK K
            try simp only [Act.put, List.setIfInBounds_toArray, List.set_cons_zero, List.set_cons_succ]
            refine SeqO.take (by rfl) (v := ?hv20) (by rfl) ?hy20 ?hr20
            case hy20 =>
              intro w hSw
              try dsimp only at hSw
              go_simp
              try (with_reducible rfl)
            try simp only [Act.put, List.setIfInBounds_toArray, List.set_cons_zero, List.set_cons_succ]
            refine SeqO.done (NoPanic.normal ?_)
            go_wp2
            go_roundw
            case rel => exact ⟨k + 1, by go_num, by omega, by show Own _ _ _ _; rw [HST.out]; exact o5, hB5⟩
            case measure => simp only [intOf]; omega
          · have hke : k = m.length := by omega
            have HK := Lib.hid hke
            clear hke
            have o5 := ho2.out
            have hli : lineTo F (nthL m i) m m.length = m.map (dotF F (nthL m i)) := by rw [lineTo, List.take_length]
            rw [HK.out, hli] at o5
            have hst := prodTo_succ F m m hil
            have hsl := prodTo_len F m m hi
            obtain ⟨line, hline⟩ : ∃ line, line = m.map (dotF F (nthL m i)) := ⟨_, rfl⟩
            rw [← hline] at o5 hst
            obtain ⟨a5, c5, rfl⟩ := o5.slice_val
            have hH := ho.out.toH.belw hb2 (Nat.le_refl _)
            have hb12 := hb.trans (hb2.mono hsz)
            have HST := Lib.hid hst
            have HSL := Lib.hid hsl
            have O5 := Lib.hid o5
            clear o5 hst hsl hline hli
            go_wp2_with (at_builtin; refine wpList_append_row rfl (.tmp 45) (.tmp 47) rfl (v := u4) rfl (hH.belw ((Below.refl _ _).alloc (Nat.le_refl _) _) hz2) _ rfl ((Blk.new wr 22 #[.slice a5 line.length c5] rfl).cell 0) (O5.out.alloc _) hsz (by simp; omega) (by rw [HSL.out]; omega) ?_; intro v2 w2 o2 g2 _)
            go_roundw
            case rel =>
              refine ⟨i + 1, by go_num, by omega, ?_, Below.stepS (hb12.alloc (by omega) _) g2 (hH.belw ((Below.refl _ _).alloc (Nat.le_refl _) _) hz2).own (Nat.le_refl _) (by simp; omega)⟩
              show OwnS _ _ _ _
              rw [HST.out]
              exact o2
            case measure => simp only [intOf]; omega
      · have hke : i = m.length := by omega
        have HK := Lib.hid hke
        clear hke
        have oG := ho.out
        rw [HK.out, HPA.out] at oG
        obtain ⟨ga, gc, rfl, rG⟩ := oG.form
        have hns := unhide HNS ga gc wo co rG
        have HNX := hide hns
        clear hns oG rG ho
        go_wp2_with fail
        refine (unhide HNX).mono ?_
        rintro e w2 ⟨v2, rfl, o2, b2⟩
        obtain ⟨na, nc, rfl, r2⟩ := o2.form
        have c2 := Below.chain co b2
        have R2 := hide r2
        have z2 := c2.size
        clear o2 r2
        go_wp2_with fail
        go_loopw [9, 10] (fun v iv wr => ∃ i : Nat, iv = .int .i64 i ∧ i ≤ N.length ∧ Hid (OwnS wr w2.heap.size v (encsTo F n m N i)) ∧ Below w2.heap.size w2 wr) (fun _ iv _ => N.length - (intOf iv).toNat)
        case atStart => exact ⟨0, rfl, Nat.zero_le _, OwnS.empty w2 (Nat.le_refl _), (Below.refl _ _).alloc (Nat.le_refl _) _⟩
        case round =>
          obtain ⟨i, rfl, hi, ho, hb⟩ := hrel
          have hsz := hb.size
          have cr := Below.chain c2 hb
          by_cases hil : i < N.length
          · obtain ⟨gn, on, rfl, _, hcn⟩ := ((unhide R2).below hb).at_ (by omega)
            obtain ⟨ak, ck, h1, hrk⟩ := hcn i hil
            rw [unhide HNL i hil] at h1
            have hd := unhide HEN i hil ak ck wr cr hrk
            have hst := encsTo_succ F n m N hil
            have hsl := encsTo_len F n m N hi
            obtain ⟨wd, hwd⟩ : ∃ wd, wd = encTo F n m (nthL N i) m.length := ⟨_, rfl⟩
            rw [← hwd] at hd hst
            have HD := hide hd
            have HST := Lib.hid hst
            have HSL := Lib.hid hsl
            clear hd hst hsl hwd hcn hrk
            go_wp2_with fail
            refine (unhide HD).mono ?_
            rintro e w6 ⟨v6, rfl, o6, b6⟩
            obtain ⟨a6, c6, rfl⟩ := o6.slice_val
            have hH := ho.out.toH.belw b6 (Nat.le_refl _)
            have hb6 := hb.trans (b6.mono hsz)
            have z6 := b6.size
            go_wp2_with (at_builtin; refine wpList_append_row rfl (.tmp 59) (.tmp 65) rfl (v := u9) rfl (hH.belw ((Below.refl _ _).alloc (Nat.le_refl _) _) z6) _ rfl ((Blk.new w6 22 #[.slice a6 wd.length c6] rfl).cell 0) (o6.alloc _) hsz (by simp; omega) (by rw [HSL.out]; omega) ?_; intro v7 w7 o7 g7 _)
            go_roundw
            case rel =>
              refine ⟨i + 1, by go_num, by omega, ?_, Below.stepS (hb6.alloc (by omega) _) g7 (hH.belw ((Below.refl _ _).alloc (Nat.le_refl _) _) z6).own (Nat.le_refl _) (by simp; omega)⟩
              show OwnS _ _ _ _
              rw [HST.out]
              exact o7
            case measure => simp only [intOf]; omega
          · have hke : i = N.length := by omega
            have HK2 := Lib.hid hke
            clear hke
            have oE := ho.out
            rw [HK2.out, ← HE.out] at oE
            obtain ⟨ea, ec, rfl, rE⟩ := oE.form
            have krr := kr.below cr kr.lt
            have bbr := b0.trans (cr.mono sk1)
            have zr := cr.size
            by_cases hE0 : E.length = 0
            · have hbe : ((E.length : Int) == 0) = true := by rw [hE0]; rfl
              have hZ : mkC F (form F E n) = (0, 0, [], [], 6) := by rw [List.eq_nil_of_length_eq_zero hE0, form_nil]; rfl
              have HN := Lib.hid (show r = (0, 0, [], [], 6) by rw [HRR.out, hZ])
              clear hE0 hZ oE rE ho
              have r0 := krr.cell 0
              have r1 := krr.cell 1
              have r2 := krr.cell 2
              have r3 := krr.cell 3
              have s0 := krr.frozen 0
              have s1 := krr.frozen 1
              have s2 := krr.frozen 2
              have s3 := krr.frozen 3
              go_wp2
              refine bodyPost_ret (results_cell_tmp_row rfl _ _ (w.heap.size + 1) 31 #[.int .i64 0, .int .i64 0, .slice none 0 0, .slice none 0 0] _ rfl (krr.b4.store _ _ _ _) Try.underlying31 rfl (by kernel_rfl)) rfl ?_
              rw [HN.out]
              exact ⟨_, _, rfl, Own.nil _ _, OwnS.nil _ _, Below.set4 bbr (by omega) _ _ _ _⟩
            · have hbe : ((E.length : Int) == 0) = false := by rw [beq_eq_false_iff_ne]; omega
              have hfo := unhide HFO ea ec wr cr rE (by omega)
              have HFX := hide hfo
              obtain ⟨Q, hQ⟩ : ∃ Q, Q = form F E n := ⟨_, rfl⟩
              rw [← hQ] at hfo
              have HFX := hide hfo
              have HQ2 := Lib.hid hQ
              clear hE0 hfo oE rE ho hQ
              go_wp2_with fail
              refine (unhide HFX).mono ?_
              rintro e w8 ⟨v8, rfl, o8, b8⟩
              obtain ⟨qa, qc, rfl, _⟩ := o8.form
              have c8 := Below.chain cr b8
              have hMk := l18Make_any wr.heap.size w.heap.size F qa qc Q w8 ((unhide HPF).below c8) ok o8 b8.size
              have HMK := hide hMk
              clear hMk o8
              go_wp2_with fail
              refine (unhide HMK).mono ?_
              rintro e w4 ⟨v4, u4, rfl, o4, q4, b4⟩
              have c4 := Below.chain c8 b4
              have bb4 := b0.trans (c4.mono sk1)
              have kr4 := kr.below c4 kr.lt
              have p3 : w.heap.size + 1 < wr.heap.size := by omega
              have HR2 := Lib.hid (show r = mkC F Q by rw [HRR.out, HQ2.out])
              obtain ⟨qq, hqq⟩ : ∃ qq, qq = mkC F Q := ⟨_, rfl⟩
              rw [← hqq] at o4 q4 ⊢
              obtain ⟨rp, rd, rx, ry, rz⟩ := qq
              simp only [] at o4 q4 ⊢
              obtain ⟨a4, c4, rfl, _, _⟩ := o4.form
              obtain ⟨p4, d4, rfl, _⟩ := q4.form
              have HQ := Lib.hid hqq
              clear hqq
              have r0 := kr4.cell 0
              have r1 := kr4.cell 1
              have r2 := kr4.cell 2
              have r3 := kr4.cell 3
              have s0 := kr4.frozen 0
              have s1 := kr4.frozen 1
              have s2 := kr4.frozen 2
              have s3 := kr4.frozen 3
              go_wp2
              refine bodyPost_ret (results_cell_tmp_row rfl _ _ (w.heap.size + 1) 31 #[.int .i64 rp, .int .i64 rd, .slice a4 rx.length c4, .slice p4 ry.length d4] _ rfl (kr4.b4.store _ _ _ _) Try.underlying31 rfl (by kernel_rfl)) rfl ?_
              rw [HR2.out, ← HQ.out]
              refine ⟨_, _, rfl, ?_, ?_, Below.set4 bb4 (by omega) _ _ _ _⟩
              · exact ((((o4.storeBelow p3 _).storeBelow p3 _).storeBelow p3 _).storeBelow p3 _).mono (by omega)
              · exact ((((q4.storeBelow p3 _).storeBelow p3 _).storeBelow p3 _).storeBelow p3 _).mono (by omega)
end Go.Proofs.Ytcblhjhabhjbkaa

