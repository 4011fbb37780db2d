/-
  Texts joined.
-/
import Derived.Lib.AppendZeros
import Derived.Test.YtgmgpcaahanmiaaY5
import Derived.Test.YtgmgpcaahanmiaaY6
import Derived.Test.YtgmgpcaahanmiaaY14
import Derived.Test.YtgmgpcaahanmiaaY15
import Derived.Test.YtgmgpcaahanmiaaY19
set_option linter.unusedVariables false
set_option linter.unusedSimpArgs false
set_option maxRecDepth 100000
set_option maxHeartbeats 40000000
namespace Go.Proofs.Ytgmgpcaahanmiaa
open Go.RowKit
attribute [local go_sem ↓] Go.wp_at_zero Go.wp_at_succ
def flatTo (m : List (List Int)) : Nat → List Int
 | 0 => []
 | i + 1 => flatTo m i ++ nthL m i
theorem flatTo_len (m : List (List Int)) {i : Nat} (hl : ∀ k, k < i → (nthL m k).length ≤ 100) : (flatTo m i).length ≤ 100 * i := by
 induction i with
 | zero => simp [flatTo]
 | succ i ih =>
  have h1 := ih (fun k hk => hl k (by omega))
  have h2 := hl i (by omega)
  rw [flatTo, List.length_append]
  omega
theorem flatTo_two (a b : List Int) : flatTo [a, b] 2 = a ++ b := by simp [flatTo, nthL]
theorem growNil_any (n : Nat) (w : World) (hn : n ≤ 1000000) :
    Calls Try.prog 229 #[.slice none 0 0, .int .i64 n] w fun e w' => ∃ v, e = .returned v ∧ Own w' w.heap.size v [] ∧ Below w.heap.size w w' := by
 by_cases h0 : n = 0
 · subst h0
   go_enter Try.func229, Try.ntmps229
   go_wp2
   go_ret
   exact ⟨_, rfl, Own.nil _ _, Below.refl _ _⟩
 · have hpos : decide ((0 : Int) < (n : Int)) = true := by rw [decide_eq_true_eq]; omega
   have hpos2 : decide (0 < n) = true := by rw [decide_eq_true_eq]; omega
   obtain ⟨i0, hi0, hz0, hz1, hz2⟩ := info_parts Try.info_i64
   have hrz : ∀ ty, (Builtin.append_ #[22, 3] ty #[.slice none 0 0, .int .i64 (n : Int)]).run Try.prog w =
    .ok (.slice (some ⟨w.heap.size, 0, none⟩) n (grownCap w n 0 2)) (w.drew.alloc (.cells (Builtin.zeroCells (Value.int .i64 0).cells n ++ Builtin.zeroCells (Value.int .i64 0).cells (grownCap w n 0 2 - n)) 2)) := fun ty =>
    Lib.run_append_nil_zeros w 22 3 ty 2 i0 (.int .i64 0) .i64 .i64 Try.underlying22 Try.underlying3 hi0 hz0 n (by omega) (by rw [hz1]; omega) (by omega) (by rw [hz2]; omega)
   have hge := grownCap_ge w n 0 2
   have hle := grownCap_le_maxLen w n 0 2 (by unfold maxLen; omega)
   obtain ⟨G, hG⟩ : ∃ G, G = grownCap w n 0 2 := ⟨_, rfl⟩
   rw [← hG] at hrz hge hle
   have hcs : (Builtin.zeroCells (Value.int .i64 0).cells n ++ Builtin.zeroCells (Value.int .i64 0).cells (G - n)).size = G * 1 := by
    rw [Array.size_append, size_zeroCells, size_zeroCells]
    have e : (Value.int .i64 0).cells.size = 1 := rfl
    rw [e]; omega
   obtain ⟨cur, hcur⟩ : ∃ cur, cur = Builtin.zeroCells (Value.int .i64 0).cells n ++ Builtin.zeroCells (Value.int .i64 0).cells (G - n) := ⟨_, rfl⟩
   rw [← hcur] at hrz hcs
   have HRZ := hide hrz
   have HCS := Lib.hid hcs
   have hG63 : G ≤ 9223372036854775807 := by unfold maxLen at hle; omega
   clear hrz hcs hcur hG hz0 hz1 hz2 hi0
   go_enter Try.func229, Try.ntmps229
   go_wp2_with (at_builtin; refine Lib.wpList_append_run _ rfl _ _ _ _ rfl _ _ rfl rfl _ _ ((unhide HRZ) _) ?_)
   go_ret
   exact ⟨_, rfl, ⟨by simp, World.ownsRow_made w.drew cur G (Nat.le_refl _) hle HCS.out⟩, ((Below.refl _ _).drew).alloc (Nat.le_refl _) _⟩
theorem concat_any (ra : Option Addr) (rc : Nat) (m : List (List Int)) (w : World) (hm : RdS w ra m) (hl : m.length ≤ 100) (hr : ∀ k, k < m.length → (nthL m k).length ≤ 100) :
    Calls Try.prog 205 #[.slice ra m.length rc] w fun e w' => ∃ v, e = .returned v ∧ Own w' w.heap.size v (flatTo m m.length) ∧ Below w.heap.size w w' := by
 have hfl := flatTo_len m hr
 have hG := growNil_any (flatTo m m.length).length
 have HG := hide hG
 have HM := hide hm
 have HR := hide hr
 clear hm hr hG
 go_enter Try.func205, Try.ntmps205
 go_wp2_with fail
 go_loopw [3, 11] (fun sv iv wr => ∃ (i s : Nat), iv = .int .i64 i ∧ sv = .int .i64 s ∧ i ≤ m.length ∧ Hid (s = (flatTo m i).length) ∧ s ≤ 100 * i ∧ w = wr) (fun _ iv _ => m.length - (intOf iv).toNat)
 case atStart => exact ⟨0, 0, rfl, rfl, Nat.zero_le _, rfl, Nat.zero_le _, rfl⟩
 case round =>
  obtain ⟨i, s, rfl, rfl, hi, hs, hsb, rfl⟩ := hrel
  by_cases hil : i < m.length
  · obtain ⟨g, ob, rfl, hg, hc⟩ := (unhide HM).at_ (by omega)
    obtain ⟨ax, cx, hx1, _⟩ := hc i hil
    have hxl := unhide HR i hil
    have hst : (flatTo m (i + 1)).length = s + (nthL m i).length := by rw [flatTo, List.length_append, hs.out]
    generalize (nthL m i).length = x at hx1 hxl hst
    have HST := Lib.hid hst
    have hnn : decide ((s : Int) + (x : Int) < 0) = false := by rw [decide_eq_false_iff_not]; omega
    clear hst hs hc
    go_wp2
    go_roundw
    case rel => exact ⟨i + 1, s + x, by go_num, by go_num, by omega, HST.out.symm, by omega, trivial⟩
    case measure => simp only [intOf]; omega
  · have hke : i = m.length := by omega
    have hse : s = (flatTo m m.length).length := by rw [hs.out, hke]
    have hgg := unhide HG w (by omega)
    rw [← hse] at hgg
    have HGG := hide hgg
    clear hke hse hgg hs
    go_wp2_with fail
    refine (unhide HGG).mono ?_
    rintro e w2 ⟨v2, rfl, o2, b2⟩
    have O2 := Lib.hid o2
    clear o2
    go_wp2_with fail
    go_loopw [6, 27] (fun v iv wr => ∃ (i : Nat), iv = .int .i64 i ∧ i ≤ m.length ∧ Hid (Own wr w.heap.size v (flatTo m i)) ∧ Below w.heap.size w wr) (fun _ iv _ => m.length - (intOf iv).toNat)
    case atStart => exact ⟨0, rfl, Nat.zero_le _, O2, b2⟩
    case round =>
     obtain ⟨i2, rfl, hi2, ho, hb⟩ := hrel
     have hsz := hb.size
     by_cases hil : i2 < m.length
     · obtain ⟨g, ob, rfl, hg, hc⟩ := ((unhide HM).below hb).at_ (by omega)
       obtain ⟨ax, cx, hx1, hx2⟩ := hc i2 hil
       have hxl := unhide HR i2 hil
       have hfl2 := flatTo_len m (i := i2) (fun k hk => unhide HR k (by omega))
       have hst : flatTo m (i2 + 1) = flatTo m i2 ++ nthL m i2 := rfl
       obtain ⟨row, hrow⟩ : ∃ row, row = nthL m i2 := ⟨_, rfl⟩
       rw [← hrow] at hx1 hx2 hxl hst
       have HST := Lib.hid hst
       have HX := hide hx2
       clear hst hrow hc hx2
       go_wp2_with (at_builtin; refine wpList_append_ints rfl (.tmp 31) (.tmp 32) rfl w.heap.size u6 (flatTo m i2) row rfl ho.out ax row.length cx rfl rfl (unhide HX) (by omega) hsz ?_; intro v7 w7 o7 g7 _)
       go_roundw
       case rel => exact ⟨i2 + 1, by go_num, by omega, by show Own _ _ _ _; rw [HST.out]; exact o7, Below.step hb g7 ho.out (Nat.le_refl _) hsz⟩
       case measure => simp only [intOf]; omega
     · have hke : i2 = m.length := by omega
       have HE := Lib.hid hke
       clear hke
       go_wp2
       go_ret
       exact ⟨_, rfl, by have h := ho.out; rw [HE.out] at h; exact h, hb⟩
end Go.Proofs.Ytgmgpcaahanmiaa
namespace Go.Proofs.Ytgmgpcaahanmiaa
open Go.RowKit
attribute [local go_sem ↓] Go.wp_at_zero Go.wp_at_succ
def wout (row : List Int) (j : Nat) : List Int := row.take j ++ row.drop (j + 1)
theorem wout_len {row : List Int} {j : Nat} (h : j < row.length) : (wout row j).length = row.length - 1 := by simp [wout]; omega
def woutM (m : List (List Int)) (j : Nat) : List (List Int) := m.map fun row => wout row j
def woutTo (m : List (List Int)) (j i : Nat) : List (List Int) := (m.take i).map fun row => wout row j
theorem woutM_len (m : List (List Int)) (j : Nat) : (woutM m j).length = m.length := by simp [woutM]
theorem woutTo_len (m : List (List Int)) (j : Nat) {i : Nat} (hi : i ≤ m.length) : (woutTo m j i).length = i := by simp [woutTo]; omega
theorem woutTo_succ (m : List (List Int)) (j : Nat) {i : Nat} (hi : i < m.length) : woutTo m j (i + 1) = woutTo m j i ++ [wout (nthL m i) j] := by rw [woutTo, woutTo, take_nthL hi, List.map_append]; rfl
theorem woutTo_all (m : List (List Int)) (j : Nat) : woutTo m j m.length = woutM m j := by rw [woutTo, List.take_length, woutM]
theorem woutM_Mat {F : FD} {n j : Nat} {m : List (List Int)} (h : F.Mat n m) (hj : j < n) : F.Mat (n - 1) (woutM m j) := by
 intro x hx
 rw [woutM, List.mem_map] at hx
 obtain ⟨row, hr, rfl⟩ := hx
 obtain ⟨h1, h2⟩ := h row hr
 refine ⟨by rw [wout_len (by omega), h1], fun y hy => ?_⟩
 rw [wout, List.mem_append] at hy
 rcases hy with hy | hy
 · exact h2 y (List.mem_of_mem_take hy)
 · exact h2 y (List.mem_of_mem_drop hy)
def CapS (w : World) (ra : Option Addr) (m : List (List Int)) : Prop := ∀ g ob, ra = some ⟨g, ob, none⟩ → ∀ k, k < m.length → ∀ ai n ci, w.cell? ⟨g, ob + k, none⟩ = some (.slice ai n ci) → n ≤ ci
theorem CapS.below {w w' : World} {ra : Option Addr} {m : List (List Int)} (h : CapS w ra m) (hm : RdS w ra m) (b : Below w.heap.size w w') : CapS w' ra m := by
 intro g ob e k hk ai n ci hc
 obtain ⟨g', ob', e', hg, _⟩ := hm.at_ (by omega)
 rw [e] at e'
 injection e' with e'
 injection e' with e1 e2
 subst e1
 exact h g ob e k hk ai n ci ((b.cell (p := ⟨g, ob + k, none⟩) hg).symm.trans hc)
theorem Rd.take_ {w : World} {a : Option Addr} {xs : List Int} (h : Rd w a xs) (j : Nat) : Rd w a (xs.take j) := by
 refine ⟨by rw [List.length_take]; have := h.len; omega, fun h0 => ?_⟩
 rw [List.length_take] at h0
 obtain ⟨b, off, e, _, hc⟩ := h.at_ (by omega)
 refine ⟨b, off, e, fun i hi => ?_⟩
 rw [List.length_take] at hi
 rw [hc i (by omega)]
 congr 2
 rw [nth, nth, List.getD_eq_getElem?_getD, List.getD_eq_getElem?_getD, List.getElem?_take, if_pos (by omega)]
theorem Rd.drop_ {w : World} {b off : Nat} {xs : List Int} (h : Rd w (some ⟨b, off, none⟩) xs) (j : Nat) : Rd w (some ⟨b, off + j, none⟩) (xs.drop j) := by
 refine ⟨by rw [List.length_drop]; have := h.len; omega, fun h0 => ?_⟩
 rw [List.length_drop] at h0
 obtain ⟨b', off', e, _, hc⟩ := h.at_ (by omega)
 injection e with e
 injection e with e1 e2
 subst e1; subst e2
 refine ⟨_, _, rfl, fun i hi => ?_⟩
 rw [List.length_drop] at hi
 rw [show off + j + i = off + (j + i) by omega, hc (j + i) (by omega)]
 congr 2
 rw [nth, nth, List.getD_eq_getElem?_getD, List.getD_eq_getElem?_getD, List.getElem?_drop]
end Go.Proofs.Ytgmgpcaahanmiaa
namespace Go.Proofs.Ytgmgpcaahanmiaa
open Go.RowKit
attribute [local go_sem ↓] Go.wp_at_zero Go.wp_at_succ
theorem RdS.two {w : World} {g : Nat} {a1 a2 : Option Addr} {c1 c2 : Nat} {x1 x2 : List Int} (h1 : w.cell? ⟨g, 0, none⟩ = some (.slice a1 x1.length c1)) (h2 : w.cell? ⟨g, 1, none⟩ = some (.slice a2 x2.length c2)) (r1 : Rd w a1 x1) (r2 : Rd w a2 x2) : RdS w (some ⟨g, 0, none⟩) [x1, x2] := by
 refine ⟨by simp, fun _ => ⟨g, 0, rfl, fun i hi => ?_⟩⟩
 rcases i with _ | _ | i
 · exact ⟨a1, c1, h1, r1⟩
 · exact ⟨a2, c2, h2, r2⟩
 · exact absurd hi (by simp only [List.length_cons, List.length_nil]; omega)
theorem withoutPlace_any (ra : Option Addr) (rc : Nat) (m : List (List Int)) (n j : Nat) (w : World) (hm : RdS w ra m) (hcap : CapS w ra m) (hn : ∀ k, k < m.length → (nthL m k).length = n) (hj : j < n) (hn32 : n ≤ 32) (hm8 : m.length ≤ 32) :
    Calls Try.prog 137 #[.slice ra m.length rc, .int .i64 j] w fun e w' => ∃ v, e = .returned v ∧ OwnS w' w.heap.size v (woutM m j) ∧ Below w.heap.size w w' := by
 have HM := hide hm
 have HCAP := hide hcap
 have HN := hide hn
 obtain ⟨J, hJ⟩ : ∃ J, J = j + 1 := ⟨_, rfl⟩
 have hwj : IntKind.i64.wrap ((j : Int) + 1) = (J : Int) := by rw [IntWalk.i64_in _ (by omega)]; omega
 have hJn : J ≤ n := by omega
 have HJ := Lib.hid hJ
 have hjJ : j ≤ J := by omega
 clear hm hcap hn hJ
 go_enter Try.func137, Try.ntmps137
 go_wp2_with fail
 go_loopw [5, 10] (fun v iv wr => ∃ i : Nat, iv = .int .i64 i ∧ i ≤ m.length ∧ Hid (OwnS wr w.heap.size v (woutTo m j i)) ∧ Below w.heap.size w wr) (fun _ iv _ => m.length - (intOf iv).toNat)
 case atStart => exact ⟨0, rfl, Nat.zero_le _, OwnS.nil _ _, Below.refl _ _⟩
 case round =>
  obtain ⟨i, rfl, hi, ho, hb⟩ := hrel
  have hsz := hb.size
  by_cases hil : i < m.length
  · obtain ⟨gb, ob, rfl, hgb, hcc⟩ := ((unhide HM).below hb).at_ (by omega)
    obtain ⟨ax, cx, hx1, hxr⟩ := hcc i hil
    have hnl := unhide HN i hil
    have hcx := (unhide HCAP).below (unhide HM) hb gb ob rfl i hil _ _ _ hx1
    have hst := woutTo_succ m j hil
    have hsl := woutTo_len m j hi
    obtain ⟨row, hrw⟩ : ∃ row, row = nthL m i := ⟨_, rfl⟩
    rw [← hrw] at hx1 hxr hnl hcx hst
    have hwl := wout_len (row := row) (j := j) (by omega)
    obtain ⟨gx, ox, rfl, hgx, _⟩ := hxr.at_ (by omega)
    have hdl : (row.drop J).length = n - J := by rw [List.length_drop, hnl]
    have htl : (row.take j).length = j := by rw [List.length_take]; omega
    have htk := hxr.take_ j
    have hdp := hxr.drop_ J
    have hwo : wout row j = flatTo [row.take j, row.drop J] 2 := by rw [flatTo_two, wout, HJ.out]
    have hL1 : ∀ k, k < [row.take j, row.drop J].length → (nthL [row.take j, row.drop J] k).length ≤ 100 := fun k hk => by
     rcases k with _ | _ | k
     · show (row.take j).length ≤ 100; omega
     · show (row.drop J).length ≤ 100; omega
     · exact absurd hk (by simp only [List.length_cons, List.length_nil]; omega)
    have hC := fun (A2 : Option Addr) (C2 : Nat) (g : Nat) (W : World) (hB : Below w.heap.size w W) (h1 : W.cell? ⟨g, 0, none⟩ = some (.slice (some ⟨gx, ox, none⟩) j cx)) (h2 : W.cell? ⟨g, 1, none⟩ = some (.slice A2 (n - J) C2)) (q1 : Rd W (some ⟨gx, ox, none⟩) (row.take j)) (q2 : Rd W A2 (row.drop J)) => concat_any (some ⟨g, 0, none⟩) 2 [row.take j, row.drop J] W (RdS.two (by rw [htl]; exact h1) (by rw [hdl]; exact h2) q1 q2) (by simp) hL1
    rw [hnl] at hx1 hcx hwl
    change ∀ A2 C2 g W, Below w.heap.size w W → _ → _ → _ → _ → Calls _ _ #[.slice (some ⟨g, 0, none⟩) 2 2] W (fun e w' => ∃ v, e = .returned v ∧ Own w' W.heap.size v (flatTo [row.take j, row.drop J] 2) ∧ Below W.heap.size W w') at hC
    rw [← hwo] at hC
    obtain ⟨nw, hnw⟩ : ∃ nw, nw = wout row j := ⟨_, rfl⟩
    rw [← hnw] at hC hst hwl
    obtain ⟨x1, hx11⟩ : ∃ x, x = row.take j := ⟨_, rfl⟩
    obtain ⟨x2, hx22⟩ : ∃ x, x = row.drop J := ⟨_, rfl⟩
    rw [← hx11] at hC htk
    rw [← hx22] at hC hdp hdl
    have HC := hide hC
    have HTK := hide htk
    have HDP := hide hdp
    have HST := Lib.hid hst
    have HSL := Lib.hid hsl
    have HWL := Lib.hid hwl
    have HDL := Lib.hid hdl
    have hjc : j ≤ cx := by omega
    have hlen : (woutTo m j i).length + 1 ≤ 1073741824 := by rw [hsl]; omega
    clear hC htk hdp hst hsl hwl hdl hwo hnw hx11 hx22 hrw hnl hL1 htl hcc hxr
    by_cases hcj : cx = J
    ·
     obtain rfl : n = cx := by omega
     subst hcj
     have hx20 : x2 = [] := List.eq_nil_of_length_eq_zero (by rw [HDL.out]; omega)
     have HC := hide (fun (A2 : Option Addr) (C2 : Nat) (g : Nat) (W : World) (hB : Below w.heap.size w W) (h1 : W.cell? ⟨g, 0, none⟩ = some (.slice (some ⟨gx, ox, none⟩) j n)) (h2 : W.cell? ⟨g, 1, none⟩ = some (.slice A2 0 C2)) q1 q2 => unhide HC A2 C2 g W hB h1 (by rw [Nat.sub_self]; exact h2) q1 q2)
     clear hJn hcx
     go_upto_region 5 with fail
     refine wp_region_noPanic ?_
     refine wp_region_ord (S := (fun W => Below w.heap.size w W)) [(true, 0), (true, 1), (true, 2), (true, 3), (true, 4), (true, 5), (true, 6), (true, 7), (false, 8), (false, 9), (false, 10), (false, 11), (true, 12)] (by kernel_rfl) (by kernel_rfl) (by kernel_rfl) rfl (fun _ _ _ _ _ h => h) ?_ (fun hHeld => ?_)
     · exact hb.drew
     refine SeqO.take (by rfl) (v := ?hv1) (by rfl) ?hy1 ?hr1
     case hy1 =>
      intro w hSw
      try dsimp only at hSw
      go_simp
      try (with_reducible rfl)
     try simp only [Act.put, List.setIfInBounds_toArray, List.set_cons_zero, List.set_cons_succ]
     refine SeqO.take (by rfl) (v := ?hv2) (by rfl) ?hy2 ?hr2
     case hy2 =>
      intro w hSw
      try dsimp only at hSw
      go_simp
      try (with_reducible rfl)
     try simp only [Act.put, List.setIfInBounds_toArray, List.set_cons_zero, List.set_cons_succ]
     refine SeqO.take (by rfl) (v := ?hv3) (by rfl) ?hy3 ?hr3
     case hy3 =>
      intro w hSw
      try dsimp only at hSw
      go_simp
      try (with_reducible rfl)
     try simp only [Act.put, List.setIfInBounds_toArray, List.set_cons_zero, List.set_cons_succ]
     refine SeqO.take (by rfl) (v := ?hv4) (by rfl) ?hy4 ?hr4
     case hy4 =>
      intro w hSw
      try dsimp only at hSw
      go_simp
      try (with_reducible rfl)
     try simp only [Act.put, List.setIfInBounds_toArray, List.set_cons_zero, List.set_cons_succ]
     refine SeqO.take (by rfl) (v := ?hv5) (by rfl) ?hy5 ?hr5
     case hy5 =>
      intro w hSw
      try dsimp only at hSw
      go_simp
      try (with_reducible rfl)
     try simp only [Act.put, List.setIfInBounds_toArray, List.set_cons_zero, List.set_cons_succ]
     refine SeqO.take (by rfl) (v := ?hv6) (by rfl) ?hy6 ?hr6
     case hy6 =>
      intro w hSw
      try dsimp only at hSw
      go_simp
      try (with_reducible rfl)
     try simp only [Act.put, List.setIfInBounds_toArray, List.set_cons_zero, List.set_cons_succ]
     refine SeqO.take (by rfl) (v := ?hv7) (by rfl) ?hy7 ?hr7
     case hy7 =>
      intro w hSw
      try dsimp only at hSw
      go_simp
      try (with_reducible rfl)
     try simp only [Act.put, List.setIfInBounds_toArray, List.set_cons_zero, List.set_cons_succ]
     refine SeqO.take (by rfl) (v := ?hv8) (by rfl) ?hy8 ?hr8
     case hy8 =>
      intro w hSw
      try dsimp only at hSw
      go_simp
      try (with_reducible rfl)
     try simp only [Act.put, List.setIfInBounds_toArray, List.set_cons_zero, List.set_cons_succ]
     refine SeqO.call (by rfl) (fun K hK => ?_)
     go_simp
     refine hK.out _ _ ?_ (fun hHeld => ?_)
     · exact hHeld.alloc hHeld.size _
     clear hK K
     try simp only [Act.put, List.setIfInBounds_toArray, List.set_cons_zero, List.set_cons_succ]
     refine SeqO.call (by rfl) (fun K hK => ?_)
     go_simp
     have hB2 := hHeld
     refine (unhide HC (some ⟨gx, ox, none⟩) 0 _ _ hB2 ((Blk.new _ 22 #[.slice (some ⟨gx, ox, none⟩) j n, .slice (some ⟨gx, ox, none⟩) 0 0] rfl).cell 0) ((Blk.new _ 22 #[.slice (some ⟨gx, ox, none⟩) j n, .slice (some ⟨gx, ox, none⟩) 0 0] rfl).cell 1) ((((unhide HTK).drewN 1).alloc _)) (by rw [hx20]; exact Rd.nil _ _)).mono ?_
     rintro e w4 ⟨v4, rfl, o4, b4⟩
     obtain ⟨a4, c4, rfl, _, _⟩ := o4.form
     rw [HWL.out] at o4 ⊢
     have hB4 := Below.chain hB2 b4
     have hZ4 := hB4.size
     have b04 : Below wr.heap.size wr w4 := ((Below.refl wr.heap.size wr).drew.alloc (Nat.le_refl _) _).trans (b4.mono (by simp))
     have hQ4 := b04.size
     have q4 := ho.out.toH.belw b04 (Nat.le_refl _)
     have o4 := o4.mono (B' := wr.heap.size) (by simp)
     go_wp2_with fail
     refine hK.out _ _ ?_ (fun hHeld => ?_)
     · exact hB4
     clear hK K
     try simp only [Act.put, List.setIfInBounds_toArray, List.set_cons_zero, List.set_cons_succ]
     refine SeqO.call (by rfl) (fun K hK => ?_)
     go_simp
     refine hK.out _ _ ?_ (fun hHeld => ?_)
     · exact hB4.alloc hZ4 _
     clear hK K
     try simp only [Act.put, List.setIfInBounds_toArray, List.set_cons_zero, List.set_cons_succ]
     refine SeqO.call (by rfl) (fun K hK => ?_)
     refine step_append_row rfl (.tmp 14) (.tmp 24) rfl rfl (q4.belw ((Below.refl _ _).alloc (Nat.le_refl _) _) hQ4) _ rfl ((Blk.new w4 22 #[.slice a4 (n - 1) c4] rfl).cell 0) (o4.alloc _) hsz (alloc_le hQ4 _) hlen ?_
     intro v5 W5 o5 g5 _
     have hB5 := Below.stepS (hB4.alloc hZ4 _) g5 (q4.belw ((Below.refl _ _).alloc (Nat.le_refl _) _) hQ4).own (Nat.le_refl _) (alloc_le hZ4 _)
     refine hK.out _ _ ?_ (fun hHeld => ?_)
     · exact hB5
     clear hK K
     try simp only [Act.put, List.setIfInBounds_toArray, List.set_cons_zero, List.set_cons_succ]
     refine SeqO.take (by rfl) (v := ?hv9) (by rfl) ?hy9 ?hr9
     case hy9 =>
      intro w hSw
      try dsimp only at hSw
      go_simp
      try (with_reducible rfl)
     try simp only [Act.put, List.setIfInBounds_toArray, List.set_cons_zero, List.set_cons_succ]
     refine SeqO.done (NoPanic.normal ?_)
     go_wp2
     go_roundw
     case rel => exact ⟨i + 1, by go_num, by omega, by show OwnS _ _ _ _; rw [HST.out]; exact o5, hB5⟩
     case measure => simp only [intOf]; omega
    ·
     have hne : (cx = J) = False := eq_false hcj
     go_upto_region 5 with fail
     refine wp_region_noPanic ?_
     refine wp_region_ord (S := (fun W => Below w.heap.size w W)) [(true, 0), (true, 1), (true, 2), (true, 3), (true, 4), (true, 5), (true, 6), (true, 7), (false, 8), (false, 9), (false, 10), (false, 11), (true, 12)] (by kernel_rfl) (by kernel_rfl) (by kernel_rfl) rfl (fun _ _ _ _ _ h => h) ?_ (fun hHeld => ?_)
     · exact hb.drew
     refine SeqO.take (by rfl) (v := ?hv10) (by rfl) ?hy10 ?hr10
     case hy10 =>
      intro w hSw
      try dsimp only at hSw
      go_simp
      try (with_reducible rfl)
     try simp only [Act.put, List.setIfInBounds_toArray, List.set_cons_zero, List.set_cons_succ]
     refine SeqO.take (by rfl) (v := ?hv11) (by rfl) ?hy11 ?hr11
     case hy11 =>
      intro w hSw
      try dsimp only at hSw
      go_simp
      try (with_reducible rfl)
     try simp only [Act.put, List.setIfInBounds_toArray, List.set_cons_zero, List.set_cons_succ]
     refine SeqO.take (by rfl) (v := ?hv12) (by rfl) ?hy12 ?hr12
     case hy12 =>
      intro w hSw
      try dsimp only at hSw
      go_simp
      try (with_reducible rfl)
     try simp only [Act.put, List.setIfInBounds_toArray, List.set_cons_zero, List.set_cons_succ]
     refine SeqO.take (by rfl) (v := ?hv13) (by rfl) ?hy13 ?hr13
     case hy13 =>
      intro w hSw
      try dsimp only at hSw
      go_simp
      try (with_reducible rfl)
     try simp only [Act.put, List.setIfInBounds_toArray, List.set_cons_zero, List.set_cons_succ]
     refine SeqO.take (by rfl) (v := ?hv14) (by rfl) ?hy14 ?hr14
     case hy14 =>
      intro w hSw
      try dsimp only at hSw
      go_simp
      try (with_reducible rfl)
     try simp only [Act.put, List.setIfInBounds_toArray, List.set_cons_zero, List.set_cons_succ]
     refine SeqO.take (by rfl) (v := ?hv15) (by rfl) ?hy15 ?hr15
     case hy15 =>
      intro w hSw
      try dsimp only at hSw
      go_simp
      try (with_reducible rfl)
     try simp only [Act.put, List.setIfInBounds_toArray, List.set_cons_zero, List.set_cons_succ]
     refine SeqO.take (by rfl) (v := ?hv16) (by rfl) ?hy16 ?hr16
     case hy16 =>
      intro w hSw
      try dsimp only at hSw
      go_simp
      try (with_reducible rfl)
     try simp only [Act.put, List.setIfInBounds_toArray, List.set_cons_zero, List.set_cons_succ]
     refine SeqO.take (by rfl) (v := ?hv17) (by rfl) ?hy17 ?hr17
     case hy17 =>
      intro w hSw
      try dsimp only at hSw
      go_simp
      try (with_reducible rfl)
     try simp only [Act.put, List.setIfInBounds_toArray, List.set_cons_zero, List.set_cons_succ]
     refine SeqO.call (by rfl) (fun K hK => ?_)
     go_simp
     refine hK.out _ _ ?_ (fun hHeld => ?_)
     · exact hHeld.alloc hHeld.size _
     clear hK K
     try simp only [Act.put, List.setIfInBounds_toArray, List.set_cons_zero, List.set_cons_succ]
     refine SeqO.call (by rfl) (fun K hK => ?_)
     go_simp
     have hB2 := hHeld
     refine (unhide HC (some ⟨gx, ox + J, none⟩) (cx - J) _ _ hB2 ((Blk.new _ 22 #[.slice (some ⟨gx, ox, none⟩) j cx, .slice (some ⟨gx, ox + J, none⟩) (n - J) (cx - J)] rfl).cell 0) ((Blk.new _ 22 #[.slice (some ⟨gx, ox, none⟩) j cx, .slice (some ⟨gx, ox + J, none⟩) (n - J) (cx - J)] rfl).cell 1) ((((unhide HTK).drewN 1).alloc _)) (((unhide HDP).drewN 1).alloc _)).mono ?_
     rintro e w4 ⟨v4, rfl, o4, b4⟩
     obtain ⟨a4, c4, rfl, _, _⟩ := o4.form
     rw [HWL.out] at o4 ⊢
     have hB4 := Below.chain hB2 b4
     have hZ4 := hB4.size
     have b04 : Below wr.heap.size wr w4 := ((Below.refl wr.heap.size wr).drew.alloc (Nat.le_refl _) _).trans (b4.mono (by simp))
     have hQ4 := b04.size
     have q4 := ho.out.toH.belw b04 (Nat.le_refl _)
     have o4 := o4.mono (B' := wr.heap.size) (by simp)
     go_wp2_with fail
     refine hK.out _ _ ?_ (fun hHeld => ?_)
     · exact hB4
     clear hK K
     try simp only [Act.put, List.setIfInBounds_toArray, List.set_cons_zero, List.set_cons_succ]
     refine SeqO.call (by rfl) (fun K hK => ?_)
     go_simp
     refine hK.out _ _ ?_ (fun hHeld => ?_)
     · exact hB4.alloc hZ4 _
     clear hK K
     try simp only [Act.put, List.setIfInBounds_toArray, List.set_cons_zero, List.set_cons_succ]
     refine SeqO.call (by rfl) (fun K hK => ?_)
     refine step_append_row rfl (.tmp 14) (.tmp 24) rfl rfl (q4.belw ((Below.refl _ _).alloc (Nat.le_refl _) _) hQ4) _ rfl ((Blk.new w4 22 #[.slice a4 (n - 1) c4] rfl).cell 0) (o4.alloc _) hsz (alloc_le hQ4 _) hlen ?_
     intro v5 W5 o5 g5 _
     have hB5 := Below.stepS (hB4.alloc hZ4 _) g5 (q4.belw ((Below.refl _ _).alloc (Nat.le_refl _) _) hQ4).own (Nat.le_refl _) (alloc_le hZ4 _)
     refine hK.out _ _ ?_ (fun hHeld => ?_)
     · exact hB5
     clear hK K
     try simp only [Act.put, List.setIfInBounds_toArray, List.set_cons_zero, List.set_cons_succ]
     refine SeqO.take (by rfl) (v := ?hv18) (by rfl) ?hy18 ?hr18
     case hy18 =>
      intro w hSw
      try dsimp only at hSw
      go_simp
      try (with_reducible rfl)
     try simp only [Act.put, List.setIfInBounds_toArray, List.set_cons_zero, List.set_cons_succ]
     refine SeqO.done (NoPanic.normal ?_)
     go_wp2
     go_roundw
     case rel => exact ⟨i + 1, by go_num, by omega, by show OwnS _ _ _ _; rw [HST.out]; exact o5, hB5⟩
     case measure => simp only [intOf]; omega
  · have hke : i = m.length := by omega
    have HE := Lib.hid hke
    clear hke
    go_wp2
    go_ret
    exact ⟨_, rfl, by have h := ho.out; rw [HE.out, woutTo_all] at h; exact h, hb⟩
end Go.Proofs.Ytgmgpcaahanmiaa
namespace Go.Proofs.Ytgmgpcaahanmiaa
open Go.RowKit
attribute [local go_sem ↓] Go.wp_at_zero Go.wp_at_succ
def shoRow (F : FD) (m : List (List Int)) (j k i : Nat) : List Int := if nth (nthL m i) j = 0 then nthL m i else less F (nthL m i) (nthL m k) (F.mul (nth (nthL m i) j) (F.inv (nth (nthL m k) j)))
def shoTo (F : FD) (m : List (List Int)) (j k : Nat) : Nat → List (List Int)
 | 0 => []
 | i + 1 => if i = k then shoTo F m j k i else shoTo F m j k i ++ [wout (shoRow F m j k i) j]
def shoM (F : FD) (m : List (List Int)) (j : Nat) : List (List Int) := shoTo F m j (pivAt m j 0) m.length
theorem shoRow_el {F : FD} (ok : F.Ok) {n : Nat} {m : List (List Int)} (h : F.Mat n m) {j k i : Nat} (hi : i < m.length) : (shoRow F m j k i).length = n ∧ ∀ x ∈ shoRow F m j k i, 0 ≤ x ∧ x < F.n := by
 rw [shoRow]
 split
 · exact Mat_nth h hi
 · exact ⟨by rw [less_len, (Mat_nth h hi).1], less_el ok _ _ _⟩
theorem shoTo_len (F : FD) (m : List (List Int)) (j k i : Nat) : (shoTo F m j k i).length ≤ i := by
 induction i with
 | zero => simp [shoTo]
 | succ i ih =>
  rw [shoTo]
  split
  · omega
  · rw [List.length_append, List.length_singleton]; omega
theorem shoTo_Mat {F : FD} (ok : F.Ok) {n : Nat} {m : List (List Int)} (h : F.Mat n m) {j k : Nat} (hj : j < n) {i : Nat} (hi : i ≤ m.length) : F.Mat (n - 1) (shoTo F m j k i) := by
 induction i with
 | zero => intro x hx; simp [shoTo] at hx
 | succ i ih =>
  rw [shoTo]
  split
  · exact ih (by omega)
  · intro x hx
    rw [List.mem_append, List.mem_singleton] at hx
    rcases hx with hx | rfl
    · exact ih (by omega) x hx
    · obtain ⟨h1, h2⟩ := shoRow_el ok h (j := j) (k := k) (show i < m.length by omega)
      refine ⟨by rw [wout_len (by omega), h1], fun y hy => ?_⟩
      rw [wout, List.mem_append] at hy
      rcases hy with hy | hy
      · exact h2 y (List.mem_of_mem_take hy)
      · exact h2 y (List.mem_of_mem_drop hy)
theorem Own.cap_ {w : World} {B n c : Nat} {a : Option Addr} {xs : List Int} (h : Own w B (.slice a n c) xs) : n ≤ c := by
 obtain ⟨_, h2⟩ := h
 rcases h2.2 with ⟨e3, _⟩ | ⟨g3, cap3, cur3, e3, _, _, h4, _⟩
 · injection e3 with _ e4 _; omega
 · injection e3 with _ e4 e5; omega
end Go.Proofs.Ytgmgpcaahanmiaa
namespace Go.Proofs.Ytgmgpcaahanmiaa
open Go.RowKit
def lesR (F : FD) (m : List (List Int)) (j k : Nat) (row : List Int) : List Int := less F row (nthL m k) (F.mul (nth row j) (F.inv (nth (nthL m k) j)))
theorem shoRow_les {F : FD} (ok : F.Ok) {n : Nat} {m : List (List Int)} (h : F.Mat n m) {j k i : Nat} (hi : i < m.length) : shoRow F m j k i = lesR F m j k (nthL m i) := by
 rw [shoRow, lesR]
 split
 · rename_i h0
   rw [h0, zero_mul' ok, less_zero ok (Mat_nth h hi).2]
 · rfl
theorem shoTo_erase {F : FD} (ok : F.Ok) {n : Nat} {m : List (List Int)} (h : F.Mat n m) {j k i : Nat} (hi : i ≤ m.length) : shoTo F m j k i = ((m.take i).eraseIdx k).map fun row => wout (lesR F m j k row) j := by
 induction i with
 | zero => simp [shoTo]
 | succ i ih =>
  have hl : (m.take i).length = i := by rw [List.length_take]; omega
  rw [shoTo, take_nthL (show i < m.length by omega)]
  split
  · rename_i e
    subst e
    rw [ih (by omega), List.eraseIdx_append_of_length_le (by omega), hl, Nat.sub_self, List.eraseIdx_cons_zero, List.append_nil, List.eraseIdx_of_length_le (by omega)]
  · rename_i e
    rw [ih (by omega), shoRow_les ok h (by omega)]
    by_cases hk : k < i
    · rw [List.eraseIdx_append_of_lt_length (by omega), List.map_append, List.map_singleton]
    · rw [List.eraseIdx_of_length_le (l := m.take i) (by omega), List.eraseIdx_of_length_le (by rw [List.length_append, hl, List.length_singleton]; omega), List.map_append, List.map_singleton]
theorem sho_hit {F : FD} (ok : F.Ok) {n : Nat} {m : List (List Int)} (h : F.Mat n m) {j k : Nat} (hp : pivAt m j 0 = k) : shoM F m j = woutM ((m.eraseIdx k).map (lesR F m j k)) j := by
 rw [shoM, hp, shoTo_erase ok h (Nat.le_refl _), List.take_length, woutM, List.map_map]
 rfl
theorem sho_none {F : FD} {m : List (List Int)} {j : Nat} (hp : pivAt m j 0 = m.length) (hz : ∀ i, i < m.length → nth (nthL m i) j = 0) : shoM F m j = woutM m j := by
 rw [shoM, hp]
 have key : ∀ i, i ≤ m.length → shoTo F m j m.length i = woutTo m j i := fun i => by
  induction i with
  | zero => intro _; simp [shoTo, woutTo]
  | succ i ih =>
   intro hi
   rw [shoTo, if_neg (by omega), woutTo_succ m j (by omega), ih (by omega), shoRow, if_pos (hz i (by omega))]
 rw [key _ (Nat.le_refl _), woutTo_all]
end Go.Proofs.Ytgmgpcaahanmiaa
namespace Go.Proofs.Ytgmgpcaahanmiaa
open Go.RowKit
attribute [local go_sem ↓] Go.wp_at_zero Go.wp_at_succ
def plcV (_ : FD) (n : Nat) (j : Int) : Int := if inB j 0 ((n : Int) - 1) = true then (if n = 1 then 6 else 0) else 2
def plcR (p d : Int) (xs : List Int) (m : List (List Int)) (j : Int) : Int := if okC p d xs m = true then plcV (fdR p d xs) (nthL m 0).length j else 1
theorem plc_zero {p d : Int} {xs : List Int} {m : List (List Int)} {j : Int} (h : plcR p d xs m j = 0) : okC p d xs m = true ∧ ∃ k : Nat, j = (k : Int) ∧ k < (nthL m 0).length ∧ (nthL m 0).length ≠ 1 := by
 rw [plcR] at h
 split at h
 · refine ⟨by assumption, ?_⟩
   rw [plcV] at h
   split at h
   · rename_i h2
     rw [inB_true] at h2
     split at h
     · simp at h
     · exact ⟨j.toNat, by omega, by omega, by assumption⟩
   · simp at h
 · simp at h
def punRes (p d : Int) (xs : List Int) (m : List (List Int)) (j : Int) : Int × Int × List Int × List (List Int) × Int := if plcR p d xs m j = 0 then mkC (fdR p d xs) (form (fdR p d xs) (woutM m j.toNat) ((nthL m 0).length - 1)) else (0, 0, [], [], plcR p d xs m j)
theorem placed_any (p d : Int) (a : Option Addr) (c : Nat) (xs : List Int) (ra : Option Addr) (rc : Nat) (m : List (List Int)) (j : Int) (w : World) (hx : Rd w a xs) (hm : RdS w ra m) (ed : I64 d) : Calls Try.prog 136 #[.agg #[.int .i64 p, .int .i64 d, .slice a xs.length c, .slice ra m.length rc], .int .i64 j] w (fun e w' => e = .returned (.int .i64 (plcR p d xs m j)) ∧ Below w.heap.size w w') := by
 have hml := hm.len
 generalize hR : plcR p d xs m j = r
 obtain ⟨W0, hHW⟩ : ∃ z, z = w.alloc (.cells #[.int .i64 p, .int .i64 d, .slice a xs.length c, .slice ra m.length rc] 37) := ⟨_, rfl⟩
 have b0 : Below w.heap.size w W0 := by rw [hHW]; exact (Below.refl _ _).alloc (Nat.le_refl _) _
 have k0 : Blk W0 w.heap.size 37 #[.int .i64 p, .int .i64 d, .slice a xs.length c, .slice ra m.length rc] := by rw [hHW]; exact Blk.new _ _ _ rfl
 have sk0 : w.heap.size < W0.heap.size := k0.lt
 have HW := Lib.hid hHW
 clear hHW
 have hV := implVC_any p d a c xs ra rc m W0 (hx.below b0) (hm.below b0) ed
 cases hk : okC p d xs m with
 | false =>
  have HN := Lib.hid (show r = 1 by rw [← hR, plcR, hk]; rfl)
  rw [hk] at hV
  have HV := hide hV
  clear hV hk hR
  have f0 := k0.cell 0
  have f1 := k0.cell 1
  have f2 := k0.cell 2
  have f3 := k0.cell 3
  go_enter Try.func136, Try.ntmps136
  go_upto_region 1 with fail
  rw [← HW.out]
  go_wp2_with fail
  refine (unhide HV).mono ?_
  rintro e w1 ⟨rfl, b1⟩
  have k1 := k0.below b1 k0.lt
  clear f0 f1 f2 f3
  have f0 := k1.cell 0
  have f1 := k1.cell 1
  have f2 := k1.cell 2
  have f3 := k1.cell 3
  have bb1 := b0.trans (b1.mono (Nat.le_of_lt sk0))
  go_wp2
  go_ret
  exact ⟨by rw [HN.out]; rfl, bb1⟩
 | true =>
  obtain ⟨F, n, rfl, rfl, rfl, hC⟩ := okC_gc hk
  have ok := hC.good.ok
  obtain ⟨n2, n64⟩ := ok.n_bd
  have hm1 := hC.m1
  have hm0 : 0 < m.length := by omega
  have hm8 := hC.m8
  have hn1 := hC.n1
  have hn32 := hC.n32
  rw [hk] at hV
  have HV := hide hV
  have hRR : r = plcV F n j := by rw [← hR, plcR, hk, fdR_eq, hC.hn]; rfl
  clear hV hk hR
  have hL := fun W (h : Below W0.heap.size W0 W) => lengthOf_any F.p F.k a F.poly.length c ra rc m W ((hm.below b0).below h) hm1
  rw [hC.hn] at hL
  have HL := hide hL
  have KB := hide (show ∀ W, Below W0.heap.size W0 W → Blk W w.heap.size 37 #[.int .i64 F.p, .int .i64 F.k, .slice a F.poly.length c, .slice ra m.length rc] from fun W h => k0.below h k0.lt)
  rw [plcV] at hRR
  have hIN := fun W => within_any j 0 ((n : Int) - 1) W
  obtain ⟨q, hq⟩ : ∃ q, q = inB j 0 ((n : Int) - 1) := ⟨_, rfl⟩
  rw [← hq] at hRR hIN
  have HIN := hide hIN
  clear hIN hq hL hC
  cases q with
  | false =>
   have HRR := Lib.hid (show r = 2 by rw [hRR]; rfl)
   clear hRR
   have f0 := k0.cell 0
   have f1 := k0.cell 1
   have f2 := k0.cell 2
   have f3 := k0.cell 3
   go_enter Try.func136, Try.ntmps136
   go_upto_region 1 with fail
   rw [← HW.out]
   go_wp2_with fail
   refine (unhide HV).mono ?_
   rintro e w1 ⟨rfl, b1⟩
   have k1 := k0.below b1 k0.lt
   clear f0 f1 f2 f3
   have f0 := k1.cell 0
   have f1 := k1.cell 1
   have f2 := k1.cell 2
   have f3 := k1.cell 3
   have bb1 := b0.trans (b1.mono (Nat.le_of_lt sk0))
   go_wp2_with fail
   refine (unhide HL w1 b1).mono ?_
   rintro e w2 ⟨rfl, b2⟩
   have c2 := Below.chain b1 b2
   have k2 := unhide KB w2 c2
   clear f0 f1 f2 f3
   have f0 := k2.cell 0
   have f1 := k2.cell 1
   have f2 := k2.cell 2
   have f3 := k2.cell 3
   go_wp2_with fail
   refine (unhide HIN _).mono ?_
   rintro e w3 ⟨rfl, rfl⟩
   go_wp2
   go_ret
   exact ⟨by rw [HRR.out]; rfl, b0.trans (c2.mono (Nat.le_of_lt sk0))⟩
  | true =>
   by_cases hn0 : n = 1
   ·
    have HRR := Lib.hid (show r = 6 by rw [hRR, if_pos rfl, if_pos hn0])
    have hbe : ((n : Int) == 1) = true := by rw [hn0]; rfl
    have hbe2 : (n == 1) = true := by rw [hn0]; rfl
    clear hRR hn0
    have f0 := k0.cell 0
    have f1 := k0.cell 1
    have f2 := k0.cell 2
    have f3 := k0.cell 3
    go_enter Try.func136, Try.ntmps136
    go_upto_region 1 with fail
    rw [← HW.out]
    go_wp2_with fail
    refine (unhide HV).mono ?_
    rintro e w1 ⟨rfl, b1⟩
    have k1 := k0.below b1 k0.lt
    clear f0 f1 f2 f3
    have f0 := k1.cell 0
    have f1 := k1.cell 1
    have f2 := k1.cell 2
    have f3 := k1.cell 3
    have bb1 := b0.trans (b1.mono (Nat.le_of_lt sk0))
    go_wp2_with fail
    refine (unhide HL w1 b1).mono ?_
    rintro e w2 ⟨rfl, b2⟩
    have c2 := Below.chain b1 b2
    have k2 := unhide KB w2 c2
    clear f0 f1 f2 f3
    have f0 := k2.cell 0
    have f1 := k2.cell 1
    have f2 := k2.cell 2
    have f3 := k2.cell 3
    go_wp2_with fail
    refine (unhide HIN _).mono ?_
    rintro e w3 ⟨rfl, rfl⟩
    go_wp2_with fail
    refine (unhide HL _ c2).mono ?_
    rintro e w4 ⟨rfl, b4⟩
    have c4 := Below.chain c2 b4
    go_wp2
    go_ret
    exact ⟨by rw [HRR.out]; rfl, b0.trans (c4.mono (Nat.le_of_lt sk0))⟩
   ·
    have HRR := Lib.hid (show r = 0 by rw [hRR, if_pos rfl, if_neg hn0])
    have hbe : ((n : Int) == 1) = false := by rw [beq_eq_false_iff_ne]; omega
    have hbe2 : (n == 1) = false := by rw [beq_eq_false_iff_ne]; exact hn0
    clear hRR hn0
    have f0 := k0.cell 0
    have f1 := k0.cell 1
    have f2 := k0.cell 2
    have f3 := k0.cell 3
    go_enter Try.func136, Try.ntmps136
    go_upto_region 1 with fail
    rw [← HW.out]
    go_wp2_with fail
    refine (unhide HV).mono ?_
    rintro e w1 ⟨rfl, b1⟩
    have k1 := k0.below b1 k0.lt
    clear f0 f1 f2 f3
    have f0 := k1.cell 0
    have f1 := k1.cell 1
    have f2 := k1.cell 2
    have f3 := k1.cell 3
    have bb1 := b0.trans (b1.mono (Nat.le_of_lt sk0))
    go_wp2_with fail
    refine (unhide HL w1 b1).mono ?_
    rintro e w2 ⟨rfl, b2⟩
    have c2 := Below.chain b1 b2
    have k2 := unhide KB w2 c2
    clear f0 f1 f2 f3
    have f0 := k2.cell 0
    have f1 := k2.cell 1
    have f2 := k2.cell 2
    have f3 := k2.cell 3
    go_wp2_with fail
    refine (unhide HIN _).mono ?_
    rintro e w3 ⟨rfl, rfl⟩
    go_wp2_with fail
    refine (unhide HL _ c2).mono ?_
    rintro e w4 ⟨rfl, b4⟩
    have c4 := Below.chain c2 b4
    go_wp2
    go_ret
    exact ⟨by rw [HRR.out]; rfl, b0.trans (c4.mono (Nat.le_of_lt sk0))⟩
theorem implPU_any (p d : Int) (a : Option Addr) (c : Nat) (xs : List Int) (ra : Option Addr) (rc : Nat) (m : List (List Int)) (j : Int) (w : World) (hx : Rd w a xs) (hm : RdS w ra m) (hcap : CapS w ra m) (ed : I64 d) : Calls Try.prog 52 #[.agg #[.int .i64 p, .int .i64 d, .slice a xs.length c, .slice ra m.length rc], .int .i64 j] w (ResC w (punRes p d xs m j)) := by
 have hml := hm.len
 generalize hR : punRes p d xs m j = r
 obtain ⟨W0, hHW⟩ : ∃ z, z = (w.alloc (.cells #[.int .i64 p, .int .i64 d, .slice a xs.length c, .slice ra m.length rc] 37)).alloc (.cells #[.int .i64 0, .int .i64 0, .slice none 0 0, .slice none 0 0] 37) := ⟨_, rfl⟩
 have b0 : Below w.heap.size w W0 := by rw [hHW]; exact ((Below.refl _ _).alloc (Nat.le_refl _) _).alloc (by simp) _
 have k0 : Blk W0 w.heap.size 37 #[.int .i64 p, .int .i64 d, .slice a xs.length c, .slice ra m.length rc] := by rw [hHW]; exact (Blk.new _ _ _ rfl).alloc _
 have kr : Blk W0 (w.heap.size + 1) 37 #[.int .i64 0, .int .i64 0, .slice none 0 0, .slice none 0 0] := by rw [hHW]; exact Blk.new _ _ _ (by simp)
 have sk0 : w.heap.size + 1 < W0.heap.size := kr.lt
 have sk1 : w.heap.size ≤ W0.heap.size := by omega
 have HW := Lib.hid hHW
 clear hHW
 have hV := placed_any p d a c xs ra rc m j W0 (hx.below b0) (hm.below b0) ed
 by_cases hq : plcR p d xs m j = 0
 ·
  obtain ⟨hk, k, rfl, hkn, hne⟩ := plc_zero hq
  obtain ⟨F, n, rfl, rfl, rfl, hC⟩ := okC_gc hk
  have ok := hC.good.ok
  obtain ⟨n2, n64⟩ := ok.n_bd
  have hm1 := hC.m1
  have hm0 : 0 < m.length := by omega
  have hm8 := hC.m8
  have hn1 := hC.n1
  have hn32 := hC.n32
  rw [hq] at hV
  have HV := hide hV
  have hRR : r = mkC F (form F (woutM m k) (n - 1)) := by rw [← hR, punRes, if_pos hq, fdR_eq, hC.hn, Int.toNat_natCast]
  rw [hC.hn] at hkn hne
  clear hV hk hR hq
  have hnl := fun k' (hk' : k' < m.length) => (Mat_nth hC.mat hk').1
  have hWO := fun W (h : Below W0.heap.size W0 W) => withoutPlace_any ra rc m n k W ((hm.below b0).below h) (hcap.below hm (b0.trans (h.mono sk1))) hnl hkn hn32 (by omega)
  have hMM := woutM_Mat hC.mat hkn
  obtain ⟨N0, hN0⟩ : ∃ N0, N0 = woutM m k := ⟨_, rfl⟩
  rw [← hN0] at hWO hRR hMM
  have hCO := fun b d W (h : Below W0.heap.size W0 W) (hy : RdS W b N0) => codeOf_all F a c b d N0 (n - 1) W ((hx.below b0).below h) hC.good hy hMM
  obtain ⟨N, hN⟩ : ∃ N, N = form F N0 (n - 1) := ⟨_, rfl⟩
  rw [← hN] at hRR hCO
  have HWO := hide hWO
  have HCO := hide hCO
  have HRR := Lib.hid hRR
  have BX := hide (show ∀ W, Below W0.heap.size W0 W → (Below w.heap.size w W ∧ W.cell? ⟨w.heap.size, 0, none⟩ = some (.int .i64 F.p) ∧ W.cell? ⟨w.heap.size, 1, none⟩ = some (.int .i64 F.k) ∧ W.cell? ⟨w.heap.size, 2, none⟩ = some (.slice a F.poly.length c) ∧ W.cell? ⟨w.heap.size, 3, none⟩ = some (.slice ra m.length rc)) from fun W h => ⟨b0.trans (h.mono sk1), (k0.below h k0.lt).cell 0, (k0.below h k0.lt).cell 1, (k0.below h k0.lt).cell 2, (k0.below h k0.lt).cell 3⟩)
  have BZ := hide (show ∀ x y z u W, Below W0.heap.size W0 W → (Below w.heap.size w ((((W.setCell ⟨w.heap.size + 1, 0, none⟩ x).setCell ⟨w.heap.size + 1, 1, none⟩ y).setCell ⟨w.heap.size + 1, 2, none⟩ z).setCell ⟨w.heap.size + 1, 3, none⟩ u) ∧ ((((W.setCell ⟨w.heap.size + 1, 0, none⟩ x).setCell ⟨w.heap.size + 1, 1, none⟩ y).setCell ⟨w.heap.size + 1, 2, none⟩ z).setCell ⟨w.heap.size + 1, 3, none⟩ u).cell? ⟨w.heap.size, 0, none⟩ = some (.int .i64 F.p) ∧ ((((W.setCell ⟨w.heap.size + 1, 0, none⟩ x).setCell ⟨w.heap.size + 1, 1, none⟩ y).setCell ⟨w.heap.size + 1, 2, none⟩ z).setCell ⟨w.heap.size + 1, 3, none⟩ u).cell? ⟨w.heap.size, 1, none⟩ = some (.int .i64 F.k) ∧ ((((W.setCell ⟨w.heap.size + 1, 0, none⟩ x).setCell ⟨w.heap.size + 1, 1, none⟩ y).setCell ⟨w.heap.size + 1, 2, none⟩ z).setCell ⟨w.heap.size + 1, 3, none⟩ u).cell? ⟨w.heap.size, 2, none⟩ = some (.slice a F.poly.length c) ∧ ((((W.setCell ⟨w.heap.size + 1, 0, none⟩ x).setCell ⟨w.heap.size + 1, 1, none⟩ y).setCell ⟨w.heap.size + 1, 2, none⟩ z).setCell ⟨w.heap.size + 1, 3, none⟩ u).cell? ⟨w.heap.size, 3, none⟩ = some (.slice ra m.length rc)) from fun x y z u W h => by
   have k := Below.set4 (Below.refl (w.heap.size + 1) W) (Nat.le_refl _) x y z u
   obtain ⟨q, q0, q1, q2, q3⟩ := unhide BX W h
   exact ⟨Below.set4 q (by omega) x y z u, (k.cell (p := ⟨w.heap.size, 0, none⟩) (by show w.heap.size < _; omega)).trans q0, (k.cell (p := ⟨w.heap.size, 1, none⟩) (by show w.heap.size < _; omega)).trans q1, (k.cell (p := ⟨w.heap.size, 2, none⟩) (by show w.heap.size < _; omega)).trans q2, (k.cell (p := ⟨w.heap.size, 3, none⟩) (by show w.heap.size < _; omega)).trans q3⟩)
  clear hWO hCO hN hN0 hC hRR hMM hnl
  have f0 := k0.cell 0
  have f1 := k0.cell 1
  have f2 := k0.cell 2
  have f3 := k0.cell 3
  go_enter Try.func52, Try.ntmps52
  go_upto_region 1 with fail
  rw [← HW.out]
  go_wp2_with fail
  refine (unhide HV).mono ?_
  rintro e w1 ⟨rfl, b1⟩
  have k1 := k0.below b1 k0.lt
  have kr1 := kr.below b1 kr.lt
  clear f0 f1 f2 f3
  have f0 := k1.cell 0
  have f1 := k1.cell 1
  have f2 := k1.cell 2
  have f3 := k1.cell 3
  have bb1 := b0.trans (b1.mono sk1)
  have z1 := b1.size
  go_upto_region 4 with fail
  refine wp_region_noPanic ?_
  refine wp_region_ord (S := (fun W => Below w.heap.size w W ∧ W.cell? ⟨w.heap.size, 0, none⟩ = some (.int .i64 F.p) ∧ W.cell? ⟨w.heap.size, 1, none⟩ = some (.int .i64 F.k) ∧ W.cell? ⟨w.heap.size, 2, none⟩ = some (.slice a F.poly.length c) ∧ W.cell? ⟨w.heap.size, 3, none⟩ = some (.slice ra m.length rc))) [(true, 0), (true, 1), (true, 2), (true, 3), (true, 4), (false, 5), (false, 6), (true, 7), (true, 8), (false, 9), (true, 10)] (by kernel_rfl) (by kernel_rfl) (by kernel_rfl) rfl (fun _ _ _ _ _ h => h) ?_ (fun hHeld => ?_)
  · exact (unhide BX) _ b1.drew
  refine SeqO.take (by rfl) (v := ?hv1) (by rfl) ?hy1 ?hr1
  case hy1 =>
   intro w hSw
   try dsimp only at hSw
   go_simp
   try (with_reducible rfl)
  try simp only [Act.put, List.setIfInBounds_toArray, List.set_cons_zero, List.set_cons_succ]
  refine SeqO.take (by rfl) (v := ?hv2) (by rfl) ?hy2 ?hr2
  case hy2 =>
   intro w hSw
   try dsimp only at hSw
   go_simp
   try (with_reducible rfl)
  try simp only [Act.put, List.setIfInBounds_toArray, List.set_cons_zero, List.set_cons_succ]
  refine SeqO.take (by rfl) (v := ?hv3) (by rfl) ?hy3 ?hr3
  case hy3 =>
   intro w hSw
   try dsimp only at hSw
   go_simp
   try (with_reducible rfl)
  try simp only [Act.put, List.setIfInBounds_toArray, List.set_cons_zero, List.set_cons_succ]
  refine SeqO.take (by rfl) (v := ?hv4) (by rfl) ?hy4 ?hr4
  case hy4 =>
   intro w hSw
   try dsimp only at hSw
   go_simp
   try (with_reducible rfl)
  try simp only [Act.put, List.setIfInBounds_toArray, List.set_cons_zero, List.set_cons_succ]
  refine SeqO.take (by rfl) (v := ?hv5) (by rfl) ?hy5 ?hr5
  case hy5 =>
   intro w hSw
   try dsimp only at hSw
   go_simp
   try (with_reducible rfl)
  try simp only [Act.put, List.setIfInBounds_toArray, List.set_cons_zero, List.set_cons_succ]
  refine SeqO.call (by rfl) (fun K hK => ?_)
  go_simp
  refine (unhide HWO _ b1.drew).mono ?_
  rintro e w3 ⟨u, rfl, o3, b3⟩
  obtain ⟨ax, cx, rfl, r3⟩ := o3.form
  have hB3 := Below.chain b1.drew b3
  have z3 := hB3.size
  have p3 : w.heap.size + 1 < w3.heap.size := by omega
  go_wp2_with fail
  refine hK.out _ _ ?_ (fun hHeld => ?_)
  · exact (unhide BX) _ hB3
  clear hK K
  try simp only [Act.put, List.setIfInBounds_toArray, List.set_cons_zero, List.set_cons_succ]
  refine SeqO.call (by rfl) (fun K hK => ?_)
  go_simp
  refine (unhide HCO ax cx _ hB3 r3).mono ?_
  rintro e w4 ⟨v4, u4, rfl, o4, b4⟩
  have hB4 := Below.chain hB3 b4
  obtain ⟨qq, hqq⟩ : ∃ qq, qq = mkC F N := ⟨_, rfl⟩
  rw [← hqq] at o4 ⊢
  obtain ⟨rp, rd, rx, ry, rz⟩ := qq
  simp only [] at o4 ⊢
  obtain ⟨a4, c4, p4, d4, rfl, rfl, _, _⟩ := o4.form
  have HQ := Lib.hid hqq
  clear hqq
  have kr4 := kr.below hB4 kr.lt
  have bb4 := b0.trans (hB4.mono sk1)
  have r0 := kr4.cell 0
  have r1 := kr4.cell 1
  have r2 := kr4.cell 2
  have r3 := kr4.cell 3
  have s0 := kr4.frozen 0
  have s1 := kr4.frozen 1
  have s2 := kr4.frozen 2
  have s3 := kr4.frozen 3
  go_wp2_with fail
  refine hK.out _ _ ?_ (fun hHeld => ?_)
  · exact (unhide BX) _ hB4
  clear hK K
  try simp only [Act.put, List.setIfInBounds_toArray, List.set_cons_zero, List.set_cons_succ]
  refine SeqO.take (by rfl) (v := ?hv6) (by rfl) ?hy6 ?hr6
  case hy6 =>
   intro w hSw
   try dsimp only at hSw
   go_simp
   try (with_reducible rfl)
  try simp only [Act.put, List.setIfInBounds_toArray, List.set_cons_zero, List.set_cons_succ]
  refine SeqO.take (by rfl) (v := ?hv7) (by rfl) ?hy7 ?hr7
  case hy7 =>
   intro w hSw
   try dsimp only at hSw
   go_simp
   try (with_reducible rfl)
  try simp only [Act.put, List.setIfInBounds_toArray, List.set_cons_zero, List.set_cons_succ]
  refine SeqO.call (by rfl) (fun K hK => ?_)
  go_simp
  refine hK.out _ _ ?_ (fun hHeld => ?_)
  · exact (unhide BZ) _ _ _ _ _ hB4
  clear hK K
  try simp only [Act.put, List.setIfInBounds_toArray, List.set_cons_zero, List.set_cons_succ]
  refine SeqO.take (by rfl) (v := ?hv8) (by rfl) ?hy8 ?hr8
  case hy8 =>
   intro w hSw
   try dsimp only at hSw
   go_simp
   try (with_reducible rfl)
  try simp only [Act.put, List.setIfInBounds_toArray, List.set_cons_zero, List.set_cons_succ]
  refine SeqO.done (NoPanic.normal ?_)
  go_wp2
  refine bodyPost_ret (results_cell_tmp_row rfl _ _ (w.heap.size + 1) 37 #[.int .i64 rp, .int .i64 rd, .slice a4 rx.length c4, .slice p4 ry.length d4] _ rfl (kr4.b4.store _ _ _ _) Try.underlying37 rfl (by kernel_rfl)) rfl ?_
  rw [HRR.out, ← HQ.out]
  refine ⟨_, _, rfl, ?_, Below.set4 bb4 (by omega) _ _ _ _⟩
  exact ((((o4.storeBelow p3 _).storeBelow p3 _).storeBelow p3 _).storeBelow p3 _).mono (by omega)
 ·
  have hN : r = (0, 0, [], [], plcR p d xs m j) := by rw [← hR, punRes, if_neg hq]
  obtain ⟨q, hqq⟩ : ∃ q, q = plcR p d xs m j := ⟨_, rfl⟩
  rw [← hqq] at hq hV hN
  have hbe : (q != 0) = true := by rw [bne_iff_ne]; exact hq
  have HN := Lib.hid hN
  have HV := hide hV
  clear hV hqq hN hR hq
  have f0 := k0.cell 0
  have f1 := k0.cell 1
  have f2 := k0.cell 2
  have f3 := k0.cell 3
  go_enter Try.func52, Try.ntmps52
  go_upto_region 1 with fail
  rw [← HW.out]
  go_wp2_with fail
  refine (unhide HV).mono ?_
  rintro e w1 ⟨rfl, b1⟩
  have k1 := k0.below b1 k0.lt
  have kr1 := kr.below b1 kr.lt
  clear f0 f1 f2 f3
  have f0 := k1.cell 0
  have f1 := k1.cell 1
  have f2 := k1.cell 2
  have f3 := k1.cell 3
  have bb1 := b0.trans (b1.mono sk1)
  have z1 := b1.size
  have r0 := kr1.cell 0
  have r1 := kr1.cell 1
  have r2 := kr1.cell 2
  have r3 := kr1.cell 3
  have s0 := kr1.frozen 0
  have s1 := kr1.frozen 1
  have s2 := kr1.frozen 2
  have s3 := kr1.frozen 3
  go_wp2
  refine bodyPost_ret (results_cell_tmp_row rfl _ _ (w.heap.size + 1) 37 #[.int .i64 0, .int .i64 0, .slice none 0 0, .slice none 0 0] _ rfl (kr1.b4.store _ _ _ _) Try.underlying37 rfl (by kernel_rfl)) rfl ?_
  rw [HN.out]
  exact ⟨_, _, rfl, OwnC.nil _ _, Below.set4 bb1 (by omega) _ _ _ _⟩
end Go.Proofs.Ytgmgpcaahanmiaa
namespace Go.Proofs.Ytgmgpcaahanmiaa
open Go.RowKit
attribute [local go_sem ↓] Go.wp_at_zero Go.wp_at_succ
noncomputable def shoRes (p d : Int) (xs : List Int) (m : List (List Int)) (j : Int) : Int × Int × List Int × List (List Int) × Int := if plcR p d xs m j = 0 then mkC (fdR p d xs) (form (fdR p d xs) (shoM (fdR p d xs) m j.toNat) ((nthL m 0).length - 1)) else (0, 0, [], [], plcR p d xs m j)
end Go.Proofs.Ytgmgpcaahanmiaa
