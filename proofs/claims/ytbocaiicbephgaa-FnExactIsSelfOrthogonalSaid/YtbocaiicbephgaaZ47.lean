/-
  Walks: products of rows; IsSelfOrthogonal on both sides. Printed by gen_cwo.py.
-/
import Derived.BigQuiet
import Derived.BigRegion
import Derived.ChangeOld
import Derived.Deep.DeepCutAuto
import Derived.Deep.DeepMust
import Derived.Deep.DrawnRows
import Derived.Deep.Draws
import Derived.Deep.OwnRows
import Derived.Deep.QuietTactic
import Derived.Deep.RegionHeld3
import Derived.Deep.Slices
import Derived.IntWalk
import Derived.Laws.Rows
import Derived.Lib.Hide
import Derived.Maps.AppendAt
import Derived.OpenShut
import Derived.OwnWalk
import Derived.ProofKit
import Derived.ShutString
import Derived.StillTailTactics
import Derived.Test.YtbocaiicbephgaaProg
import Derived.Test.YtbocaiicbephgaaRows
import Derived.WalkKit
import Derived.WalkLawsBesides
import Derived.WalkSpells
import Derived.Test.YtbocaiicbephgaaZ20
import Derived.Test.YtbocaiicbephgaaZ24
import Derived.Test.YtbocaiicbephgaaZ30
import Derived.Test.YtbocaiicbephgaaZ35
import Derived.Test.YtbocaiicbephgaaZ37
import Derived.Test.YtbocaiicbephgaaZ39
import Derived.Test.YtbocaiicbephgaaZ46
set_option linter.unusedVariables false
set_option linter.unusedSimpArgs false
namespace Go.Proofs.Ytbocaiicbephgaa
open Go.RowKit
attribute [local go_sem ↓] Go.wp_at_zero Go.wp_at_succ
/-- The products of all rows with all rows. -/
def gram (F : FD) (m : List (List Int)) : List (List Int) := m.map fun r => m.map fun s => dotF F r s
def soV (F : FD) (m : List (List Int)) : Bool := (List.range m.length).all fun i => (List.range (i + 1)).all fun k => dotF F (nthL m i) (nthL m k) == 0
def soRes (p d : Int) (xs : List Int) (m : List (List Int)) : Bool := okC p d xs m && soV (fdR p d xs) m
theorem dotF_comm {F : FD} (ok : F.Ok) {xs ys : List Int} (h : xs.length = ys.length) : dotF F xs ys = dotF F ys xs := by
  rw [dotF, dotF, h]
  exact sum_congr fun j _ => mul_comm' ok _ _
theorem gram_so {F : FD} (ok : F.Ok) {n : Nat} {m : List (List Int)} (hM : F.Mat n m) : (!(gram F m).any fun r => !isZ r) = soV F m := by
  rw [Bool.eq_iff_iff, Bool.not_eq_true', List.any_eq_false, soV, List.all_eq_true]
  have key : ∀ i k, i < m.length → k < m.length → dotF F (nthL m i) (nthL m k) = dotF F (nthL m k) (nthL m i) := fun i k hi hk => dotF_comm ok (by rw [(Mat_nth hM hi).1, (Mat_nth hM hk).1])
  constructor
  · intro h i hi
    rw [List.mem_range] at hi
    rw [List.all_eq_true]
    intro k hk
    rw [List.mem_range] at hk
    have h1 := h (m.map fun s => dotF F (nthL m i) s) (List.mem_map.2 ⟨nthL m i, nthL_mem hi, rfl⟩)
    simp only [Bool.not_eq_true', Bool.not_eq_false, isZ] at h1
    have h2 : (m.map fun s => dotF F (nthL m i) s).any notZero = false := by simpa using h1
    rw [List.any_eq_false] at h2
    have h3 := h2 (dotF F (nthL m i) (nthL m k)) (List.mem_map.2 ⟨nthL m k, nthL_mem (by omega), rfl⟩)
    simpa [notZero] using h3
  · intro h r hr
    rw [gram, List.mem_map] at hr
    obtain ⟨x, hx, rfl⟩ := hr
    obtain ⟨i, hi, rfl⟩ := List.getElem_of_mem hx
    rw [← nthL_lt hi]
    have hz : (m.map fun s => dotF F (nthL m i) s).any notZero = false := by
      rw [List.any_eq_false]
      intro y hy
      rw [List.mem_map] at hy
      obtain ⟨z, hz, rfl⟩ := hy
      obtain ⟨k, hk, rfl⟩ := List.getElem_of_mem hz
      rw [← nthL_lt hk]
      have hik : dotF F (nthL m i) (nthL m k) = 0 := by
        by_cases hle : k ≤ i
        · have := h i (List.mem_range.2 hi)
          rw [List.all_eq_true] at this
          simpa using this k (List.mem_range.2 (by omega))
        · have := h k (List.mem_range.2 hk)
          rw [List.all_eq_true] at this
          rw [key i k hi hk]
          simpa using this i (List.mem_range.2 (by omega))
      simp [notZero, hik]
    simp [isZ, hz]
set_option maxRecDepth 100000 in
set_option maxHeartbeats 3200000 in
theorem products_any (F : FD) (a : Option Addr) (c : Nat) (ra : Option Addr) (rc : Nat) (m : List (List Int)) (n : Nat) (w : World) (hR : Rd w a F.poly) (hm : RdS w ra m) (hC : GC F n m) :
    Calls Try.prog 92 #[.agg #[.int .i64 F.p, .int .i64 F.k, .slice a F.poly.length c, .slice ra m.length rc]] w fun e w' => ∃ v, e = .returned v ∧ OwnS w' w.heap.size v (gram F m) ∧ Below w.heap.size w w' := by
  have hml := hm.len
  have ok := hC.good.ok
  have hm1 := hC.m1
  have hm0 : 0 < m.length := by omega
  have hm8 := hC.m8
  have hn1 := hC.n1
  have hn32 := hC.n32
  obtain ⟨W0, hHW⟩ : ∃ z, z = w.alloc (.cells #[.int .i64 F.p, .int .i64 F.k, .slice a F.poly.length c, .slice ra m.length rc] 33) := ⟨_, rfl⟩
  have b0 : Below w.heap.size w W0 := by rw [hHW]; exact (Below.refl _ _).alloc (Nat.le_refl _) _
  have k0 : Blk W0 w.heap.size 33 #[.int .i64 F.p, .int .i64 F.k, .slice a F.poly.length c, .slice ra m.length rc] := by rw [hHW]; exact Blk.new _ _ _ rfl
  have sk0 : w.heap.size < W0.heap.size := k0.lt
  have HW := Lib.hid hHW
  clear hHW
  obtain ⟨gb, ob, rfl, hgb, hcc⟩ := (hm.below b0).at_ hm0
  obtain ⟨ai, ci, hr0, _⟩ := hcc 0 hm0
  rw [Nat.add_zero, hC.hn] at hr0
  have hT := fun W (h : Below W0.heap.size W0 W) => tablesOf_any F a c W ((hR.below b0).below h) ok
  have hCO := fun W (h : Below W0.heap.size W0 W) => columnsOf_any (some ⟨gb, ob, none⟩) rc m n W ((hm.below b0).below h) (fun xs hx => (hC.mat xs hx).1) (by omega) (by omega)
  have hcl := cols_len m n
  have hcM := cols_Mat ok hC.mat
  have hcc2 := cols_cols hC.mat
  have hgr : prodTo F m (cols (cols m n) m.length) m.length = gram F m := by rw [hcc2, prodTo, List.take_length, gram]
  obtain ⟨cs, hcs⟩ : ∃ cs, cs = cols m n := ⟨_, rfl⟩
  rw [← hcs] at hCO hcl hcM hgr
  have hTI := fun tv ba bc W (h : Below W0.heap.size W0 W) hT (hy : RdS W ba cs) => times_any F tv (some ⟨gb, ob, none⟩) rc m ba bc cs n m.length W hT ok ((hm.below b0).below h) hy hC.mat hcM hcl (by omega) (by omega) (by omega) (by omega)
  rw [hgr] at hTI
  have HT := hide hT
  have HCO := hide hCO
  have HTI := hide hTI
  have BX := hide (show ∀ W, Below W0.heap.size W0 W → (Below W0.heap.size W0 W ∧ W.cell? ⟨w.heap.size, 0, none⟩ = some (.int .i64 F.p) ∧ W.cell? ⟨w.heap.size, 1, none⟩ = some (.int .i64 F.k) ∧ W.cell? ⟨w.heap.size, 2, none⟩ = some (.slice a F.poly.length c) ∧ W.cell? ⟨w.heap.size, 3, none⟩ = some (.slice (some ⟨gb, ob, none⟩) m.length rc) ∧ W.cell? ⟨gb, ob, none⟩ = some (.slice ai n ci)) from fun W h => ⟨h, (k0.below h k0.lt).cell 0, (k0.below h k0.lt).cell 1, (k0.below h k0.lt).cell 2, (k0.below h k0.lt).cell 3, (h.cell (p := ⟨gb, ob, none⟩) hgb).trans hr0⟩)
  clear hT hCO hTI hgr hcl hcM hcc2 hcs hcc hC
  go_enter Try.func92, Try.ntmps92
  go_upto_region 1 with fail
  rw [← HW.out]
  go_region_held3 (fun W => Below W0.heap.size W0 W ∧ W.cell? ⟨w.heap.size, 0, none⟩ = some (.int .i64 F.p) ∧ W.cell? ⟨w.heap.size, 1, none⟩ = some (.int .i64 F.k) ∧ W.cell? ⟨w.heap.size, 2, none⟩ = some (.slice a F.poly.length c) ∧ W.cell? ⟨w.heap.size, 3, none⟩ = some (.slice (some ⟨gb, ob, none⟩) m.length rc) ∧ W.cell? ⟨gb, ob, none⟩ = some (.slice ai n ci))
    (first | exact (unhide BX) _ (Below.refl _ _).drew | exact (unhide BX) _ (by assumption))
    (first
      | (go_at_call 59; refine (unhide HT _ ?_).mono ?_; exact And.left (by assumption); rintro e w2 ⟨tv, rfl, t2, b2⟩; have hB2 := Below.chain (a := W0) (And.left (by assumption)) b2; have hY := Below.refl w2.heap.size w2)
      | (go_at_call 126; refine (unhide HCO _ ?_).mono ?_; exact And.left (by assumption); rintro e w3 ⟨u, rfl, o3, b3⟩; obtain ⟨ax, cx, rfl, r3⟩ := o3.form; have hB2 := Below.chain (a := W0) (And.left (by assumption)) b3; have hX := b3)
      | (go_at_call 125; refine (unhide HTI tv ax cx _ hB2 (by first | exact t2 | exact t2.below b3) (by first | exact r3 | exact r3.below b2)).mono ?_; rintro e w4 ⟨u4, rfl, o4, b4⟩; have hB4 := Below.chain hB2 b4; have hZ := hB2.size))
  all_goals
    go_wp2
    go_ret
    exact ⟨_, rfl, o4.mono (by omega), b0.trans (hB4.mono (Nat.le_of_lt sk0))⟩
theorem so1_any (xa : Option Addr) (xc : Nat) (xs : List Int) (w : World) (hx : Rd w xa xs) : Calls Try.prog 93 #[.slice xa xs.length xc] w fun e w' => e = .returned (.bool (!isZ xs)) ∧ Below w.heap.size w w' := by
  have hz := isZero_any xa xc xs w hx
  generalize isZ xs = z at hz
  have HZ := hide hz
  clear hz
  go_enter Try.func93, Try.ntmps93
  go_wp2_with fail
  refine (unhide HZ).mono ?_
  rintro e w1 ⟨rfl, rfl⟩
  go_wp2
  go_ret
  exact ⟨rfl, Below.refl _ _⟩
theorem ent_so1 : ∀ (args : Array Value) (w : World), (callFunc 93 args).run Try.prog w = .ok (.enter 93 args) w := fun _ _ => by kernel_rfl
set_option maxRecDepth 100000 in
set_option maxHeartbeats 1600000 in
theorem implSO_any (p d : Int) (a : Option Addr) (c : Nat) (xs : List Int) (ra : Option Addr) (rc : Nat) (m : List (List Int)) (w : World) (hx : Rd w a xs) (hm : RdS w ra m) (ed : I64 d) : Calls Try.prog 50 #[.agg #[.int .i64 p, .int .i64 d, .slice a xs.length c, .slice ra m.length rc]] w (fun e w' => e = .returned (.bool (soRes p d xs m)) ∧ Below w.heap.size w w') := by
  have hml := hm.len
  generalize hR : soRes p d xs m = r
  obtain ⟨W0, hHW⟩ : ∃ z, z = w.alloc (.cells #[.int .i64 p, .int .i64 d, .slice a xs.length c, .slice ra m.length rc] 33) := ⟨_, rfl⟩
  have b0 : Below w.heap.size w W0 := by rw [hHW]; exact (Below.refl _ _).alloc (Nat.le_refl _) _
  have k0 : Blk W0 w.heap.size 33 #[.int .i64 p, .int .i64 d, .slice a xs.length c, .slice ra m.length rc] := by rw [hHW]; exact Blk.new _ _ _ rfl
  have sk0 : w.heap.size < W0.heap.size := k0.lt
  have HW := Lib.hid hHW
  clear hHW
  have hV := implVC_any p d a c xs ra rc m W0 (hx.below b0) (hm.below b0) ed
  cases hk : okC p d xs m with
  | false =>
    have HN := Lib.hid (show r = false by rw [← hR, soRes, hk]; rfl)
    rw [hk] at hV
    have HV := hide hV
    clear hV hk hR
    have f0 := k0.cell 0
    have f1 := k0.cell 1
    have f2 := k0.cell 2
    have f3 := k0.cell 3
    go_enter Try.func50, Try.ntmps50
    go_upto_region 1 with fail
    rw [← HW.out]
    go_wp2_with fail
    refine (unhide HV).mono ?_
    rintro e w1 ⟨rfl, b1⟩
    have k1 := k0.below b1 k0.lt
    clear f0 f1 f2 f3
    have f0 := k1.cell 0
    have f1 := k1.cell 1
    have f2 := k1.cell 2
    have f3 := k1.cell 3
    have bb1 := b0.trans (b1.mono (Nat.le_of_lt sk0))
    go_wp2
    go_ret
    exact ⟨ret_bool (by rw [HN.out]), bb1⟩
  | true =>
    obtain ⟨F, n, rfl, rfl, rfl, hC⟩ := okC_gc hk
    have ok := hC.good.ok
    obtain ⟨n2, n64⟩ := ok.n_bd
    have hm1 := hC.m1
    have hm0 : 0 < m.length := by omega
    have hm8 := hC.m8
    have hn1 := hC.n1
    have hn32 := hC.n32
    rw [hk] at hV
    have HV := hide hV
    have hRR : r = soV F m := by rw [← hR, soRes, hk, fdR_eq]; rfl
    clear hV hk hR
    have hP := fun W (h : Below W0.heap.size W0 W) => products_any F a c ra rc m n W ((hx.below b0).below h) ((hm.below b0).below h) hC
    have hgs := gram_so ok hC.mat
    have hCF := fun (xa : Option Addr) (xc : Nat) W (hr : RdS W xa (gram F m)) => hasL0 93 (fun r => !isZ r) xa xc (gram F m) W ent_so1 hr (fun k xi ci W' hk hrk hb => so1_any xi ci _ W' hrk)
    obtain ⟨G, hG⟩ : ∃ G, G = gram F m := ⟨_, rfl⟩
    rw [← hG] at hP hgs hCF
    rw [← hgs] at hRR
    generalize (G.any fun r => !isZ r) = z at hRR hCF
    have HP := hide hP
    have HCF := hide hCF
    have HRR := Lib.hid hRR
    clear hP hgs hCF hG hRR hC
    have f0 := k0.cell 0
    have f1 := k0.cell 1
    have f2 := k0.cell 2
    have f3 := k0.cell 3
    go_enter Try.func50, Try.ntmps50
    go_upto_region 1 with fail
    rw [← HW.out]
    go_wp2_with fail
    refine (unhide HV).mono ?_
    rintro e w1 ⟨rfl, b1⟩
    have k1 := k0.below b1 k0.lt
    clear f0 f1 f2 f3
    have f0 := k1.cell 0
    have f1 := k1.cell 1
    have f2 := k1.cell 2
    have f3 := k1.cell 3
    have bb1 := b0.trans (b1.mono (Nat.le_of_lt sk0))
    go_wp2_with fail
    refine (unhide HP w1 b1).mono ?_
    rintro e w2 ⟨u, rfl, o2, b2⟩
    obtain ⟨ax, cx, rfl, r2⟩ := o2.form
    have R2 := hide r2
    clear o2 r2
    go_wp2_with fail
    refine (unhide HCF ax cx w2 (unhide R2)).mono ?_
    rintro e w3 ⟨rfl, b3⟩
    go_wp2
    go_ret
    exact ⟨ret_bool (by rw [HRR.out]), (bb1.trans (b2.mono bb1.size)).trans (b3.mono (by have := bb1.size; have := b2.size; omega))⟩
set_option maxRecDepth 100000 in
set_option maxHeartbeats 3200000 in
theorem l20Orthogonal_any (g : Nat) (F : FD) (ra : Option Addr) (rc : Nat) (m : List (List Int)) (n : Nat) (w : World) (hF : PF w g F) (hc3 : w.cell? ⟨g, 3, none⟩ = some (.slice ra m.length rc)) (hm : RdS w ra m) (hC : GC F n m) :
    Calls Try.prog 90 #[.pointer (some ⟨g, 0, none⟩)] w fun e w' => e = .returned (.bool (soV F m)) ∧ Below w.heap.size w w' := by
  have hml := hm.len
  have ok := hC.good.ok
  have hm1 := hC.m1
  have hm0 : 0 < m.length := by omega
  have hm8 := hC.m8
  have hglt : g < w.heap.size := World.block_lt_of_cell? w _ hc3
  obtain ⟨gb, ob, rfl, hgb, hcc⟩ := hm.at_ hm0
  have hcc2 : ∀ k, k < m.length → ∃ ak ck, w.cell? ⟨gb, ob + k, none⟩ = some (.slice ak n ck) ∧ Rd w ak (nthL m k) := fun k hk => by
    obtain ⟨ak, ck, h1, h2⟩ := hcc k hk
    rw [(Mat_nth hC.mat hk).1] at h1
    exact ⟨ak, ck, h1, h2⟩
  have hDT := fun (i k : Nat) (hi : i < m.length) (hk : k < m.length) a1 c1 a2 c2 W (h : Below w.heap.size w W) (r1 : Rd w a1 (nthL m i)) (r2 : Rd w a2 (nthL m k)) => (l17Dot_any g F a1 a2 c1 c2 (nthL m i) (nthL m k) n W (hF.below h) ok (r1.below h) (r2.below h) (Mat_nth hC.mat hi).1 (Mat_nth hC.mat hk).1 (Mat_nth hC.mat hi).2 (Mat_nth hC.mat hk).2)
  have hso : soV F m = (List.range m.length).all fun i => (List.range (i + 1)).all fun k => dotF F (nthL m i) (nthL m k) == 0 := rfl
  have HCC := hide hcc2
  have HDT := hide hDT
  have HSO := Lib.hid hso
  clear hcc hcc2 hDT hso hm hC hF
  go_enter Try.func90, Try.ntmps90
  go_wp2_with fail
  go_loopw [3] (fun iv wr => ∃ i : Nat, iv = .int .i64 i ∧ i ≤ m.length ∧ Hid (∀ i2, i2 < i → ∀ k, k ≤ i2 → dotF F (nthL m i2) (nthL m k) = 0) ∧ Below w.heap.size w wr) (fun iv _ => m.length - (intOf iv).toNat)
  case atStart => exact ⟨0, rfl, Nat.zero_le _, fun i2 h => by omega, Below.refl _ _⟩
  case round =>
    obtain ⟨i, rfl, hi, hz, hb⟩ := hrel
    rename World => wo
    have c3 := (hb.cell (p := ⟨g, 3, none⟩) hglt).trans hc3
    by_cases hil : i < m.length
    · obtain ⟨ax, cx, hx1, hxr⟩ := unhide HCC i hil
      have HXR := hide hxr
      clear hxr
      go_wp2_with fail
      go_loopw [4] (fun kv wr => ∃ k : Nat, kv = .int .i64 k ∧ k ≤ i + 1 ∧ Hid (∀ k2, k2 < k → dotF F (nthL m i) (nthL m k2) = 0) ∧ Below w.heap.size w wr) (fun kv _ => i + 1 - (intOf kv).toNat)
      case atStart => exact ⟨0, rfl, Nat.zero_le _, fun k2 h => by omega, hb⟩
      case round =>
        obtain ⟨k, rfl, hk, hzk, hb2⟩ := hrel
        by_cases hki : k ≤ i
        · obtain ⟨ay, cy, hy1, hyr⟩ := unhide HCC k (by omega)
          have hd := fun W (h : Below w.heap.size w W) => unhide HDT i k hil (by omega) ax cx ay cy W h (unhide HXR) hyr
          obtain ⟨D, hD⟩ : ∃ D, D = dotF F (nthL m i) (nthL m k) := ⟨_, rfl⟩
          rw [← hD] at hd
          have HD := hide hd
          have HDD := Lib.hid hD
          have hkl : k < m.length := by omega
          have BX := hide (show ∀ W, Below w.heap.size w W → (Below w.heap.size w W ∧ W.cell? ⟨g, 3, none⟩ = some (.slice (some ⟨gb, ob, none⟩) m.length rc) ∧ W.cell? ⟨gb, ob + i, none⟩ = some (.slice ax n cx) ∧ W.cell? ⟨gb, ob + k, none⟩ = some (.slice ay n cy)) from fun W h => ⟨h, (h.cell (p := ⟨g, 3, none⟩) hglt).trans hc3, (h.cell (p := ⟨gb, ob + i, none⟩) hgb).trans hx1, (h.cell (p := ⟨gb, ob + k, none⟩) hgb).trans hy1⟩)
          clear hd hD hyr
          by_cases h0 : D = 0
          · have hbn : (D != 0) = false := by rw [bne_eq_false_iff_eq]; exact h0
            have H0 := hide h0
            clear h0
            go_upto_region 7 with fail
            refine wp_region_noPanic ?_
            refine wp_region_ord (S := (fun W => Below w.heap.size w W ∧ W.cell? ⟨g, 3, none⟩ = some (.slice (some ⟨gb, ob, none⟩) m.length rc) ∧ W.cell? ⟨gb, ob + i, none⟩ = some (.slice ax n cx) ∧ W.cell? ⟨gb, ob + k, none⟩ = some (.slice ay n cy))) [(true, 0), (true, 1), (true, 2), (true, 3), (true, 4), (true, 5), (true, 6), (true, 7), (true, 8), (true, 9), (true, 10), (true, 11), (true, 12), (true, 13), (true, 14), (true, 15), (true, 16), (false, 17), (true, 18)] (by kernel_rfl) (by kernel_rfl) (by kernel_rfl) rfl (fun _ _ _ _ _ h => h) ?_ (fun hHeld => ?_)
            · exact (unhide BX) _ hb2.drew
            refine SeqO.take (by rfl) (v := ?hv1) (by rfl) ?hy1 ?hr1
            case hy1 =>
              intro w hSw
              try dsimp only at hSw
              go_simp
              try (with_reducible rfl)
            try simp only [Act.put, List.setIfInBounds_toArray, List.set_cons_zero, List.set_cons_succ]
            refine SeqO.take (by rfl) (v := ?hv2) (by rfl) ?hy2 ?hr2
            case hy2 =>
              intro w hSw
              try dsimp only at hSw
              go_simp
              try (with_reducible rfl)
            try simp only [Act.put, List.setIfInBounds_toArray, List.set_cons_zero, List.set_cons_succ]
            refine SeqO.take (by rfl) (v := ?hv3) (by rfl) ?hy3 ?hr3
            case hy3 =>
              intro w hSw
              try dsimp only at hSw
              go_simp
              try (with_reducible rfl)
            try simp only [Act.put, List.setIfInBounds_toArray, List.set_cons_zero, List.set_cons_succ]
            refine SeqO.take (by rfl) (v := ?hv4) (by rfl) ?hy4 ?hr4
            case hy4 =>
              intro w hSw
              try dsimp only at hSw
              go_simp
              try (with_reducible rfl)
            try simp only [Act.put, List.setIfInBounds_toArray, List.set_cons_zero, List.set_cons_succ]
            refine SeqO.take (by rfl) (v := ?hv5) (by rfl) ?hy5 ?hr5
            case hy5 =>
              intro w hSw
              try dsimp only at hSw
              go_simp
              try (with_reducible rfl)
            try simp only [Act.put, List.setIfInBounds_toArray, List.set_cons_zero, List.set_cons_succ]
            refine SeqO.take (by rfl) (v := ?hv6) (by rfl) ?hy6 ?hr6
            case hy6 =>
              intro w hSw
              try dsimp only at hSw
              go_simp
              try (with_reducible rfl)
            try simp only [Act.put, List.setIfInBounds_toArray, List.set_cons_zero, List.set_cons_succ]
            refine SeqO.take (by rfl) (v := ?hv7) (by rfl) ?hy7 ?hr7
            case hy7 =>
              intro w hSw
              try dsimp only at hSw
              go_simp
              try (with_reducible rfl)
            try simp only [Act.put, List.setIfInBounds_toArray, List.set_cons_zero, List.set_cons_succ]
            refine SeqO.take (by rfl) (v := ?hv8) (by rfl) ?hy8 ?hr8
            case hy8 =>
              intro w hSw
              try dsimp only at hSw
              go_simp
              try (with_reducible rfl)
            try simp only [Act.put, List.setIfInBounds_toArray, List.set_cons_zero, List.set_cons_succ]
            refine SeqO.take (by rfl) (v := ?hv9) (by rfl) ?hy9 ?hr9
            case hy9 =>
              intro w hSw
              try dsimp only at hSw
              go_simp
              try (with_reducible rfl)
            try simp only [Act.put, List.setIfInBounds_toArray, List.set_cons_zero, List.set_cons_succ]
            refine SeqO.take (by rfl) (v := ?hv10) (by rfl) ?hy10 ?hr10
            case hy10 =>
              intro w hSw
              try dsimp only at hSw
              go_simp
              try (with_reducible rfl)
            try simp only [Act.put, List.setIfInBounds_toArray, List.set_cons_zero, List.set_cons_succ]
            refine SeqO.take (by rfl) (v := ?hv11) (by rfl) ?hy11 ?hr11
            case hy11 =>
              intro w hSw
              try dsimp only at hSw
              go_simp
              try (with_reducible rfl)
            try simp only [Act.put, List.setIfInBounds_toArray, List.set_cons_zero, List.set_cons_succ]
            refine SeqO.take (by rfl) (v := ?hv12) (by rfl) ?hy12 ?hr12
            case hy12 =>
              intro w hSw
              try dsimp only at hSw
              go_simp
              try (with_reducible rfl)
            try simp only [Act.put, List.setIfInBounds_toArray, List.set_cons_zero, List.set_cons_succ]
            refine SeqO.take (by rfl) (v := ?hv13) (by rfl) ?hy13 ?hr13
            case hy13 =>
              intro w hSw
              try dsimp only at hSw
              go_simp
              try (with_reducible rfl)
            try simp only [Act.put, List.setIfInBounds_toArray, List.set_cons_zero, List.set_cons_succ]
            refine SeqO.take (by rfl) (v := ?hv14) (by rfl) ?hy14 ?hr14
            case hy14 =>
              intro w hSw
              try dsimp only at hSw
              go_simp
              try (with_reducible rfl)
            try simp only [Act.put, List.setIfInBounds_toArray, List.set_cons_zero, List.set_cons_succ]
            refine SeqO.take (by rfl) (v := ?hv15) (by rfl) ?hy15 ?hr15
            case hy15 =>
              intro w hSw
              try dsimp only at hSw
              go_simp
              try (with_reducible rfl)
            try simp only [Act.put, List.setIfInBounds_toArray, List.set_cons_zero, List.set_cons_succ]
            refine SeqO.take (by rfl) (v := ?hv16) (by rfl) ?hy16 ?hr16
            case hy16 =>
              intro w hSw
              try dsimp only at hSw
              go_simp
              try (with_reducible rfl)
            try simp only [Act.put, List.setIfInBounds_toArray, List.set_cons_zero, List.set_cons_succ]
            refine SeqO.take (by rfl) (v := ?hv17) (by rfl) ?hy17 ?hr17
            case hy17 =>
              intro w hSw
              try dsimp only at hSw
              go_simp
              try (with_reducible rfl)
            try simp only [Act.put, List.setIfInBounds_toArray, List.set_cons_zero, List.set_cons_succ]
            refine SeqO.call (by rfl) (fun K hK => ?_)
            go_simp
            refine (unhide HD _ (And.left hHeld)).mono ?_
            rintro e w4 ⟨rfl, b4⟩
            have hB4 := Below.chain (a := w) (And.left hHeld) b4
            go_wp2_with fail
            refine hK.out _ _ ?_ (fun hHeld => ?_)
            · exact (unhide BX) _ hB4
            clear hK K
            try simp only [Act.put, List.setIfInBounds_toArray, List.set_cons_zero, List.set_cons_succ]
            refine SeqO.take (by rfl) (v := ?hv18) (by rfl) ?hy18 ?hr18
            case hy18 =>
              intro w hSw
              try dsimp only at hSw
              go_simp
              try (with_reducible rfl)
            try simp only [Act.put, List.setIfInBounds_toArray, List.set_cons_zero, List.set_cons_succ]
            refine SeqO.done (NoPanic.normal ?_)
            go_wp2
            go_roundw
            case rel =>
              refine ⟨k + 1, by go_num, by omega, fun k2 h2 => ?_, hB4⟩
              by_cases e : k2 = k
              · rw [e, ← HDD.out]; exact unhide H0
              · exact hzk.out k2 (by omega)
            case measure => simp only [intOf]; omega
          · have hbn : (D != 0) = true := by rw [bne_iff_ne]; exact h0
            have H0 := hide h0
            clear h0
            go_upto_region 7 with fail
            refine wp_region_noPanic ?_
            refine wp_region_ord (S := (fun W => Below w.heap.size w W ∧ W.cell? ⟨g, 3, none⟩ = some (.slice (some ⟨gb, ob, none⟩) m.length rc) ∧ W.cell? ⟨gb, ob + i, none⟩ = some (.slice ax n cx) ∧ W.cell? ⟨gb, ob + k, none⟩ = some (.slice ay n cy))) [(true, 0), (true, 1), (true, 2), (true, 3), (true, 4), (true, 5), (true, 6), (true, 7), (true, 8), (true, 9), (true, 10), (true, 11), (true, 12), (true, 13), (true, 14), (true, 15), (true, 16), (false, 17), (true, 18)] (by kernel_rfl) (by kernel_rfl) (by kernel_rfl) rfl (fun _ _ _ _ _ h => h) ?_ (fun hHeld => ?_)
            · exact (unhide BX) _ hb2.drew
            refine SeqO.take (by rfl) (v := ?hv19) (by rfl) ?hy19 ?hr19
            case hy19 =>
              intro w hSw
              try dsimp only at hSw
              go_simp
              try (with_reducible rfl)
            try simp only [Act.put, List.setIfInBounds_toArray, List.set_cons_zero, List.set_cons_succ]
            refine SeqO.take (by rfl) (v := ?hv20) (by rfl) ?hy20 ?hr20
            case hy20 =>
              intro w hSw
              try dsimp only at hSw
              go_simp
              try (with_reducible rfl)
            try simp only [Act.put, List.setIfInBounds_toArray, List.set_cons_zero, List.set_cons_succ]
            refine SeqO.take (by rfl) (v := ?hv21) (by rfl) ?hy21 ?hr21
            case hy21 =>
              intro w hSw
              try dsimp only at hSw
              go_simp
              try (with_reducible rfl)
            try simp only [Act.put, List.setIfInBounds_toArray, List.set_cons_zero, List.set_cons_succ]
            refine SeqO.take (by rfl) (v := ?hv22) (by rfl) ?hy22 ?hr22
            case hy22 =>
              intro w hSw
              try dsimp only at hSw
              go_simp
              try (with_reducible rfl)
            try simp only [Act.put, List.setIfInBounds_toArray, List.set_cons_zero, List.set_cons_succ]
            refine SeqO.take (by rfl) (v := ?hv23) (by rfl) ?hy23 ?hr23
            case hy23 =>
              intro w hSw
              try dsimp only at hSw
              go_simp
              try (with_reducible rfl)
            try simp only [Act.put, List.setIfInBounds_toArray, List.set_cons_zero, List.set_cons_succ]
            refine SeqO.take (by rfl) (v := ?hv24) (by rfl) ?hy24 ?hr24
            case hy24 =>
              intro w hSw
              try dsimp only at hSw
              go_simp
              try (with_reducible rfl)
            try simp only [Act.put, List.setIfInBounds_toArray, List.set_cons_zero, List.set_cons_succ]
            refine SeqO.take (by rfl) (v := ?hv25) (by rfl) ?hy25 ?hr25
            case hy25 =>
              intro w hSw
              try dsimp only at hSw
              go_simp
              try (with_reducible rfl)
            try simp only [Act.put, List.setIfInBounds_toArray, List.set_cons_zero, List.set_cons_succ]
            refine SeqO.take (by rfl) (v := ?hv26) (by rfl) ?hy26 ?hr26
            case hy26 =>
              intro w hSw
              try dsimp only at hSw
              go_simp
              try (with_reducible rfl)
            try simp only [Act.put, List.setIfInBounds_toArray, List.set_cons_zero, List.set_cons_succ]
            refine SeqO.take (by rfl) (v := ?hv27) (by rfl) ?hy27 ?hr27
            case hy27 =>
              intro w hSw
              try dsimp only at hSw
              go_simp
              try (with_reducible rfl)
            try simp only [Act.put, List.setIfInBounds_toArray, List.set_cons_zero, List.set_cons_succ]
            refine SeqO.take (by rfl) (v := ?hv28) (by rfl) ?hy28 ?hr28
            case hy28 =>
              intro w hSw
              try dsimp only at hSw
              go_simp
              try (with_reducible rfl)
            try simp only [Act.put, List.setIfInBounds_toArray, List.set_cons_zero, List.set_cons_succ]
            refine SeqO.take (by rfl) (v := ?hv29) (by rfl) ?hy29 ?hr29
            case hy29 =>
              intro w hSw
              try dsimp only at hSw
              go_simp
              try (with_reducible rfl)
            try simp only [Act.put, List.setIfInBounds_toArray, List.set_cons_zero, List.set_cons_succ]
            refine SeqO.take (by rfl) (v := ?hv30) (by rfl) ?hy30 ?hr30
            case hy30 =>
              intro w hSw
              try dsimp only at hSw
              go_simp
              try (with_reducible rfl)
            try simp only [Act.put, List.setIfInBounds_toArray, List.set_cons_zero, List.set_cons_succ]
            refine SeqO.take (by rfl) (v := ?hv31) (by rfl) ?hy31 ?hr31
            case hy31 =>
              intro w hSw
              try dsimp only at hSw
              go_simp
              try (with_reducible rfl)
            try simp only [Act.put, List.setIfInBounds_toArray, List.set_cons_zero, List.set_cons_succ]
            refine SeqO.take (by rfl) (v := ?hv32) (by rfl) ?hy32 ?hr32
            case hy32 =>
              intro w hSw
              try dsimp only at hSw
              go_simp
              try (with_reducible rfl)
            try simp only [Act.put, List.setIfInBounds_toArray, List.set_cons_zero, List.set_cons_succ]
            refine SeqO.take (by rfl) (v := ?hv33) (by rfl) ?hy33 ?hr33
            case hy33 =>
              intro w hSw
              try dsimp only at hSw
              go_simp
              try (with_reducible rfl)
            try simp only [Act.put, List.setIfInBounds_toArray, List.set_cons_zero, List.set_cons_succ]
            refine SeqO.take (by rfl) (v := ?hv34) (by rfl) ?hy34 ?hr34
            case hy34 =>
              intro w hSw
              try dsimp only at hSw
              go_simp
              try (with_reducible rfl)
            try simp only [Act.put, List.setIfInBounds_toArray, List.set_cons_zero, List.set_cons_succ]
            refine SeqO.take (by rfl) (v := ?hv35) (by rfl) ?hy35 ?hr35
            case hy35 =>
              intro w hSw
              try dsimp only at hSw
              go_simp
              try (with_reducible rfl)
            try simp only [Act.put, List.setIfInBounds_toArray, List.set_cons_zero, List.set_cons_succ]
            refine SeqO.call (by rfl) (fun K hK => ?_)
            go_simp
            refine (unhide HD _ (And.left hHeld)).mono ?_
            rintro e w4 ⟨rfl, b4⟩
            have hB4 := Below.chain (a := w) (And.left hHeld) b4
            go_wp2_with fail
            refine hK.out _ _ ?_ (fun hHeld => ?_)
            · exact (unhide BX) _ hB4
            clear hK K
            try simp only [Act.put, List.setIfInBounds_toArray, List.set_cons_zero, List.set_cons_succ]
            refine SeqO.take (by rfl) (v := ?hv36) (by rfl) ?hy36 ?hr36
            case hy36 =>
              intro w hSw
              try dsimp only at hSw
              go_simp
              try (with_reducible rfl)
            try simp only [Act.put, List.setIfInBounds_toArray, List.set_cons_zero, List.set_cons_succ]
            refine SeqO.done (NoPanic.normal ?_)
            have hn : soV F m = false := by
              rw [HSO.out, List.all_eq_false]
              refine ⟨i, List.mem_range.2 hil, ?_⟩
              rw [Bool.not_eq_true, List.all_eq_false]
              refine ⟨k, List.mem_range.2 (by omega), ?_⟩
              rw [← HDD.out]
              simpa using unhide H0
            have HN := Lib.hid hn
            clear hn
            go_wp2
            go_ret
            exact ⟨ret_bool (by rw [HN.out]), hB4⟩
        · have hke : k = i + 1 := by omega
          have HE := Lib.hid hke
          clear hke
          go_wp2
          go_roundw
          case rel =>
            refine ⟨i + 1, by go_num, by omega, fun i2 h2 k2 hk2 => ?_, hb2⟩
            by_cases e : i2 = i
            · subst e; exact hzk.out k2 (by rw [HE.out]; omega)
            · exact hz.out i2 (by omega) k2 hk2
          case measure => simp only [intOf]; omega
    · have hke : i = m.length := by omega
      have hn : soV F m = true := by
        rw [HSO.out, List.all_eq_true]
        intro i2 h2
        rw [List.mem_range] at h2
        rw [List.all_eq_true]
        intro k2 h3
        rw [List.mem_range] at h3
        rw [hz.out i2 (by omega) k2 (by omega)]
        rfl
      have HN := Lib.hid hn
      clear hn hke
      go_wp2
      go_ret
      exact ⟨ret_bool (by rw [HN.out]), hb⟩
set_option maxRecDepth 100000 in
set_option maxHeartbeats 1600000 in
theorem specSO_any (p d : Int) (a : Option Addr) (c : Nat) (xs : List Int) (ra : Option Addr) (rc : Nat) (m : List (List Int)) (w : World) (hx : Rd w a xs) (hm : RdS w ra m) : Calls Try.prog 49 #[.agg #[.int .i64 p, .int .i64 d, .slice a xs.length c, .slice ra m.length rc]] w (fun e w' => e = .returned (.bool (soRes p d xs m)) ∧ Below w.heap.size w w') := by
  have hml := hm.len
  generalize hR : soRes p d xs m = r
  obtain ⟨W0, hHW⟩ : ∃ z, z = w.alloc (.cells #[.int .i64 p, .int .i64 d, .slice a xs.length c, .slice ra m.length rc] 33) := ⟨_, rfl⟩
  have b0 : Below w.heap.size w W0 := by rw [hHW]; exact (Below.refl _ _).alloc (Nat.le_refl _) _
  have k0 : Blk W0 w.heap.size 33 #[.int .i64 p, .int .i64 d, .slice a xs.length c, .slice ra m.length rc] := by rw [hHW]; exact Blk.new _ _ _ rfl
  have sk0 : w.heap.size < W0.heap.size := k0.lt
  have HW := Lib.hid hHW
  clear hHW
  have hC0 : PC W0 w.heap.size p d a c xs ra rc m := ⟨⟨k0.cell 0, k0.cell 1, k0.cell 2, hx.below b0⟩, k0.cell 3, hm.below b0⟩
  have hV := l18Ok_any w.heap.size p d a c xs ra rc m W0 hC0
  cases hk : okC p d xs m with
  | false =>
    have HN := Lib.hid (show r = false by rw [← hR, soRes, hk]; rfl)
    rw [hk] at hV
    have HV := hide hV
    clear hV hk hR hC0
    have f0 := k0.cell 0
    have f1 := k0.cell 1
    have f2 := k0.cell 2
    have f3 := k0.cell 3
    go_enter Try.func49, Try.ntmps49
    go_upto_region 1 with fail
    rw [← HW.out]
    go_wp2_with fail
    refine (unhide HV).mono ?_
    rintro e w1 ⟨rfl, b1⟩
    have k1 := k0.below b1 k0.lt
    clear f0 f1 f2 f3
    have f0 := k1.cell 0
    have f1 := k1.cell 1
    have f2 := k1.cell 2
    have f3 := k1.cell 3
    have bb1 := b0.trans (b1.mono (Nat.le_of_lt sk0))
    go_wp2
    go_ret
    exact ⟨ret_bool (by rw [HN.out]), bb1⟩
  | true =>
    obtain ⟨F, n, rfl, rfl, rfl, hC⟩ := okC_gc hk
    have ok := hC.good.ok
    obtain ⟨n2, n64⟩ := ok.n_bd
    have hm1 := hC.m1
    have hm0 : 0 < m.length := by omega
    have hm8 := hC.m8
    have hn1 := hC.n1
    have hn32 := hC.n32
    rw [hk] at hV
    have HV := hide hV
    have hRR : r = soV F m := by rw [← hR, soRes, hk, fdR_eq]; rfl
    clear hV hk hR
    have hW := fun W (h : Below W0.heap.size W0 W) => l20Orthogonal_any w.heap.size F ra rc m n W (hC0.below h).1.pf (hC0.below h).2.1 (hC0.below h).2.2 hC
    have HWW := hide hW
    have HRR := Lib.hid hRR
    clear hW hRR hC0 hC
    have f0 := k0.cell 0
    have f1 := k0.cell 1
    have f2 := k0.cell 2
    have f3 := k0.cell 3
    go_enter Try.func49, Try.ntmps49
    go_upto_region 1 with fail
    rw [← HW.out]
    go_wp2_with fail
    refine (unhide HV).mono ?_
    rintro e w1 ⟨rfl, b1⟩
    have k1 := k0.below b1 k0.lt
    clear f0 f1 f2 f3
    have f0 := k1.cell 0
    have f1 := k1.cell 1
    have f2 := k1.cell 2
    have f3 := k1.cell 3
    have bb1 := b0.trans (b1.mono (Nat.le_of_lt sk0))
    go_wp2_with fail
    refine (unhide HWW w1 b1).mono ?_
    rintro e w2 ⟨rfl, b2⟩
    go_wp2
    go_ret
    exact ⟨ret_bool (by rw [HRR.out]), bb1.trans (b2.mono bb1.size)⟩
end Go.Proofs.Ytbocaiicbephgaa

