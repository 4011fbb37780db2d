/-
  Texts joined.
-/
import Derived.Lib.AppendZeros
import Derived.Test.YtgfcbmflnldicaaGreatBW1
import Derived.Test.YtgfcbmflnldicaaGreatBW3
import Derived.Test.YtgfcbmflnldicaaGreatBW5
import Derived.Test.YtgfcbmflnldicaaGreatBW6
import Derived.Test.YtgfcbmflnldicaaGreatBW7
import Derived.Test.YtgfcbmflnldicaaGreatBW9
import Derived.Test.YtgfcbmflnldicaaGreatBW10
import Derived.Test.YtgfcbmflnldicaaGreatBW13
import Derived.Test.YtgfcbmflnldicaaGreatBW17
set_option linter.unusedVariables false
set_option linter.unusedSimpArgs false
set_option maxRecDepth 100000
set_option maxHeartbeats 40000000
namespace Go.Proofs.YtgfcbmflnldicaaGreat
open Go.RowKit
attribute [local go_sem ↓] Go.wp_at_zero Go.wp_at_succ
theorem l10Pairs_any (g n : Nat) (ra : Option Addr) (rc : Nat) (L : List (List Int)) (w : World) (hc0 : w.cell? ⟨g, 0, none⟩ = some (.int .i64 (n : Int))) (hc1 : w.cell? ⟨g, 1, none⟩ = some (.slice ra L.length rc)) (hx : RdS w ra L) (hn : n ≤ 32) (hm : L.length ≤ 4096) :
    Calls Tryz.prog 138 #[.pointer (some ⟨g, 0, none⟩)] w fun e w' => ∃ v, e = .returned v ∧ Own w' w.heap.size v (pairsUp n L n) ∧ Below w.heap.size w w' := by
 have hgl : g < w.heap.size := World.block_lt_of_cell? _ _ hc0
 have HCE := hide (show ∀ W, Below w.heap.size w W → W.cell? ⟨g, 0, none⟩ = some (.int .i64 (n : Int)) ∧ W.cell? ⟨g, 1, none⟩ = some (.slice ra L.length rc) from fun W h => ⟨(h.cell (p := ⟨g, 0, none⟩) hgl).trans hc0, (h.cell (p := ⟨g, 1, none⟩) hgl).trans hc1⟩)
 have HX := hide hx
 clear hx hc0 hc1
 go_enter Tryz.func138, Tryz.ntmps138
 go_wp2_with fail
 go_loopw [3, 4] (fun v av wr => ∃ a : Nat, av = .int .i64 a ∧ a ≤ n ∧ Hid (Own wr w.heap.size v (pairsUp n L a)) ∧ Below w.heap.size w wr) (fun _ av _ => n - (intOf av).toNat)
 case atStart => exact ⟨0, rfl, Nat.zero_le _, Own.empty w (Nat.le_refl _), (Below.refl _ _).alloc (Nat.le_refl _) _⟩
 case round =>
  obtain ⟨a, rfl, ha, ho, hb⟩ := hrel
  have hsz := hb.size
  rename World => wo
  obtain ⟨f0, f1⟩ := unhide HCE _ hb
  by_cases han : a < n
  · have hwa : IntKind.i64.wrap ((a : Int) + 1) = (a : Int) + 1 := IntWalk.i64_in _ (by omega)
    have hpl := pairsUp_len n L a
    have hpl2 : a * n ≤ 32 * 32 := Nat.mul_le_mul (by omega) hn
    have HPS := Lib.hid (pairsUp_succ n L a)
    have hrl := rowP_len n L a
    have HRT := hide (fun t (h : a + 1 + t < n) => rowP_take (L := L) h)
    obtain ⟨P, hP⟩ : ∃ P, P = pairsUp n L a := ⟨_, rfl⟩
    obtain ⟨R, hR⟩ : ∃ R, R = rowP n L a := ⟨_, rfl⟩
    rw [← hP] at ho HPS hpl
    rw [← hR] at HPS HRT hrl
    have hst : Own wo w.heap.size u3 (P ++ R.take 0) := by rw [List.take_zero, List.append_nil]; exact ho.out
    have HST := hide hst
    have HRL := Lib.hid hrl
    clear ho hP hR hst hrl
    go_wp2_with fail
    go_loopw [3, 5] (fun v bv wr => ∃ t : Nat, bv = .int .i64 ((a : Int) + 1 + (t : Int)) ∧ a + 1 + t ≤ n ∧ Hid (Own wr w.heap.size v (P ++ R.take t)) ∧ Below w.heap.size w wr) (fun _ bv _ => n - (intOf bv).toNat)
    case atStart => exact ⟨0, by simp, by omega, unhide HST, hb⟩
    case round =>
     obtain ⟨t, rfl, htn, ho, hb⟩ := hrel
     have hsz2 := hb.size
     rename World => wi
     obtain ⟨d0, d1⟩ := unhide HCE _ hb
     by_cases htl : a + 1 + t < n
     · have h5 : (a : Int) + 1 + (t : Int) < (n : Int) := by omega
       have hwb : IntKind.i64.wrap ((a : Int) + 1 + (t : Int) + 1) = (a : Int) + 1 + (t : Int) + 1 := IntWalk.i64_in _ (by omega)
       have hbe : ((a + 1 + t : Nat) : Int) = (a : Int) + 1 + (t : Int) := by omega
       obtain ⟨b, hbb⟩ : ∃ b : Int, b = (a : Int) + 1 + (t : Int) := ⟨_, rfl⟩
       rw [← hbb] at h5 hwb hbe ⊢
       have HBE := Lib.hid hbe
       have HRT2 := Lib.hid (unhide HRT t htl)
       have hRl : (P ++ R.take t).length ≤ 1100 := by rw [List.length_append, List.length_take]; have := HRL.out; omega
       have HO := hide ho.out
       clear hbb hbe ho
       go_wp2_with fail
       go_loop [6, 7] (fun cv iv => ∃ i : Nat, iv = .int .i64 i ∧ cv = .int .i64 (cntP (L.take i) a (a + 1 + t)) ∧ i ≤ L.length) (fun _ iv => L.length - (intOf iv).toNat)
       case atStart => exact ⟨0, rfl, by simp [cntP_nil], Nat.zero_le _⟩
       case round =>
        obtain ⟨i, rfl, rfl, hi⟩ := hrel
        by_cases hil : i < L.length
        · obtain ⟨b1, o1, rfl, _, hc⟩ := ((unhide HX).below hb).at_ (by omega)
          obtain ⟨ai, ci, h3, hri⟩ := hc i hil
          have hh1 := l00Has_any ai ci (nthL L i) a wi hri
          have hh2 := l00Has_any ai ci (nthL L i) b wi hri
          have hct := cntP_take hil a (a + 1 + t)
          have hcl := cntP_le (L.take i) a (a + 1 + t)
          rw [HBE.out] at hct
          have hrl := hri.len
          rw [List.length_take] at hcl
          obtain ⟨row, hrow⟩ : ∃ row, row = nthL L i := ⟨_, rfl⟩
          rw [← hrow] at h3 hh1 hh2 hct hrl
          obtain ⟨x, hx⟩ : ∃ x, x = row.contains (a : Int) := ⟨_, rfl⟩
          obtain ⟨y, hy⟩ : ∃ y, y = row.contains b := ⟨_, rfl⟩
          obtain ⟨q, hq⟩ : ∃ q, q = cntP (L.take i) a (a + 1 + t) := ⟨_, rfl⟩
          rw [← hx] at hh1 hct
          rw [← hy] at hh2 hct
          rw [← hq] at hct hcl ⊢
          have HH1 := hide hh1
          have HH2 := hide hh2
          have hwq : IntKind.i64.wrap ((q : Int) + 1) = (q : Int) + 1 := IntWalk.i64_in _ (by omega)
          have HCT := Lib.hid hct
          clear hh1 hh2 hct hc hri hrow hx hy hq
          cases x with
          | false =>
           go_wp2_with fail
           refine (unhide HH1).mono ?_
           rintro e w2 ⟨rfl, rfl⟩
           go_wp2
           go_round
           case rel => exact ⟨i + 1, by go_num, by rw [HCT.out]; simp, by omega⟩
           case measure => simp only [intOf]; omega
          | true =>
           cases y with
           | false =>
            go_wp2_with fail
            refine (unhide HH1).mono ?_
            rintro e w2 ⟨rfl, rfl⟩
            go_wp2_with fail
            refine (unhide HH2).mono ?_
            rintro e w3 ⟨rfl, rfl⟩
            go_wp2
            go_round
            case rel => exact ⟨i + 1, by go_num, by rw [HCT.out]; simp, by omega⟩
            case measure => simp only [intOf]; omega
           | true =>
            go_wp2_with fail
            refine (unhide HH1).mono ?_
            rintro e w2 ⟨rfl, rfl⟩
            go_wp2_with fail
            refine (unhide HH2).mono ?_
            rintro e w3 ⟨rfl, rfl⟩
            go_wp2
            go_round
            case rel => exact ⟨i + 1, by go_num, by rw [HCT.out]; simp, by omega⟩
            case measure => simp only [intOf]; omega
        · have hie : i = L.length := by omega
          have htk : L.take i = L := by rw [hie, List.take_length]
          rw [htk]
          obtain ⟨q, hq⟩ : ∃ q : Int, q = (cntP L a (a + 1 + t) : Int) := ⟨_, rfl⟩
          have hnx := HRT2.out
          rw [← hq] at hnx ⊢
          have HNX := Lib.hid hnx
          obtain ⟨ao, co, rfl, _, _⟩ := (unhide HO).form
          obtain ⟨X, hX⟩ : ∃ X, X = P ++ R.take t := ⟨_, rfl⟩
          rw [← hX] at HO hRl ⊢
          have HXX := Lib.hid hX
          clear hie htk hq hnx hX
          go_wp2_with (at_builtin; refine wpList_append_ints rfl (.tmp 58) (.tmp 60) rfl w.heap.size _ X [q] rfl ((unhide HO).alloc _) _ 1 1 rfl rfl (Rd.one wi q _) (by simp; omega) (by simp; omega) ?_; intro v5 w5 o5 g5 _)
          have b5 : Below w.heap.size w w5 := (hb.alloc (by omega) _).grown g5 (by simp; omega) (fun q hq => ((unhide HO).lt q hq).1)
          have o5' : Own w5 w.heap.size v5 (P ++ R.take (t + 1)) := by rw [HNX.out, ← List.append_assoc, ← HXX.out]; exact o5
          have O5 := hide o5'
          clear o5 o5' g5
          go_roundw
          case rel => exact ⟨t + 1, by rw [← HBE.out]; go_num, by omega, unhide O5, b5⟩
          case measure => simp only [intOf]; have := HBE.out; omega
     · have hte : R.take t = R := List.take_of_length_le (by rw [HRL.out]; omega)
       have hoo := ho.out
       rw [hte, ← HPS.out] at hoo
       have HOO := hide hoo
       have h5 : ¬ (a : Int) + 1 + (t : Int) < (n : Int) := by omega
       clear hte hoo ho
       go_wp2
       go_roundw
       case rel => exact ⟨a + 1, by go_num, by omega, unhide HOO, hb⟩
       case measure => simp only [intOf]; omega
  · have hae : a = n := by omega
    have hoo := ho.out
    rw [hae] at hoo
    have HOO := hide hoo
    clear hae hoo ho
    go_wp2
    go_ret
    exact ⟨_, rfl, unhide HOO, hb⟩
theorem l10Replications_any (g n : Nat) (ra : Option Addr) (rc : Nat) (L : List (List Int)) (w : World) (hc0 : w.cell? ⟨g, 0, none⟩ = some (.int .i64 (n : Int))) (hc1 : w.cell? ⟨g, 1, none⟩ = some (.slice ra L.length rc)) (hx : RdS w ra L) (hn : n ≤ 32) (hB : ∀ k, k < L.length → okB n (nthL L k) = true) :
    Calls Tryz.prog 139 #[.pointer (some ⟨g, 0, none⟩)] w fun e w' => ∃ v xs, e = .returned v ∧ Own w' w.heap.size v xs ∧ xs.length = n ∧ Below w.heap.size w w' := by
 have hgl : g < w.heap.size := World.block_lt_of_cell? _ _ hc0
 have HCE := hide (show ∀ W, Below w.heap.size w W → W.cell? ⟨g, 0, none⟩ = some (.int .i64 (n : Int)) ∧ W.cell? ⟨g, 1, none⟩ = some (.slice ra L.length rc) from fun W h => ⟨(h.cell (p := ⟨g, 0, none⟩) hgl).trans hc0, (h.cell (p := ⟨g, 1, none⟩) hgl).trans hc1⟩)
 have hLl := hx.len
 have HX := hide hx
 have HB := hide hB
 clear hx hB
 go_enter Tryz.func139, Tryz.ntmps139
 go_wp2_with (refine wpList_make_ints rfl (.tmp 9) (.tmp 9) rfl .i64 .i64 n rfl rfl (by omega) ?_; intro w3 g3 o3 b3)
 clear hc0 hc1
 go_loopw [4] (fun iv wr => ∃ (i : Nat) (xs : List Int), iv = .int .i64 i ∧ i ≤ L.length ∧ Hid (xs.length = n) ∧ Hid (Own wr w.heap.size (.slice (some ⟨g3, 0, none⟩) n n) xs) ∧ Below w.heap.size w wr) (fun iv _ => L.length - (intOf iv).toNat)
 case atStart => exact ⟨0, zeros n, rfl, Nat.zero_le _, (by show (zeros n).length = n; simp [zeros]), o3, b3⟩
 case round =>
  obtain ⟨i, xs, rfl, hi, hxl, ho, hb⟩ := hrel
  have hsz := hb.size
  rename World => wo
  obtain ⟨f0, f1⟩ := unhide HCE _ hb
  by_cases hil : i < L.length
  · have hok := unhide HB i hil
    obtain ⟨bs, hbs⟩ : ∃ bs, bs = nthL L i := ⟨_, rfl⟩
    have HBS := Lib.hid hbs
    rw [← hbs] at hok
    have hbl : bs.length ≤ 32 := by have := okB_len hok; omega
    have HIN := hide (show ∀ k, k < bs.length → 0 ≤ nth bs k ∧ nth bs k < (n : Int) from fun k hk => okB_mem hok (nth_mem hk))
    clear hok hbs
    go_wp2_with fail
    go_loopw [5] (fun kv wr => ∃ (k : Nat) (xs : List Int), kv = .int .i64 k ∧ k ≤ bs.length ∧ Hid (xs.length = n) ∧ Hid (Own wr w.heap.size (.slice (some ⟨g3, 0, none⟩) n n) xs) ∧ Below w.heap.size w wr) (fun kv _ => bs.length - (intOf kv).toNat)
    case atStart => exact ⟨0, xs, rfl, Nat.zero_le _, hxl, ho, hb⟩
    case round =>
     obtain ⟨k, xs, rfl, hk, hxl, ho, hb⟩ := hrel
     obtain ⟨d0, d1⟩ := unhide HCE _ hb
     have hxW := (unhide HX).below hb
     obtain ⟨b1, o1, rfl, _, hcc⟩ := hxW.at_ (by omega)
     obtain ⟨ai, ci, h3, hri⟩ := hcc i hil
     rw [← HBS.out] at h3 hri
     by_cases hkl : k < bs.length
     · obtain ⟨b2, o2, rfl, _, hc2⟩ := hri.at_ (by omega)
       have g2 := hc2 k hkl
       obtain ⟨hx0, hxn⟩ := (unhide HIN) k hkl
       obtain ⟨x, hxx⟩ : ∃ x : Nat, nth bs k = (x : Int) := ⟨(nth bs k).toNat, by omega⟩
       rw [hxx] at g2 hxn
       have hxl2 : x < n := by omega
       have hO := ho.out
       have c3 := hO.cell (j := x) (by rw [hxl.out]; exact hxl2)
       have p3 := hO.frozen x
       obtain ⟨z, hz⟩ : ∃ z, z = nth xs x := ⟨_, rfl⟩
       rw [← hz] at c3
       have hg3 : w.heap.size ≤ g3 := (hO.lt g3 rfl).1
       have HO := hide hO
       clear hxx hz hcc hri hc2 ho hO hxW
       go_wp2
       go_roundw
       case rel => exact ⟨k + 1, xs.set x _, by go_num, by omega, (by show (xs.set x _).length = n; rw [List.length_set]; exact hxl.out), ((unhide HO).set x _).1, hb.setCell (p := ⟨g3, x, none⟩) hg3 _⟩
       case measure => simp only [intOf]; omega
     · clear hri hcc hxW
       go_wp2
       go_roundw
       case rel => exact ⟨i + 1, xs, by go_num, by omega, hxl, ho, hb⟩
       case measure => simp only [intOf]; omega
  · go_wp2
    go_ret
    exact ⟨_, xs, rfl, ho.out, hxl.out, hb⟩
theorem replicationsOf_any (n : Nat) (ra : Option Addr) (rc : Nat) (L : List (List Int)) (w : World) (hx : RdS w ra L) (hn : n ≤ 32) (hB : ∀ k, k < L.length → okB n (nthL L k) = true) :
    Calls Tryz.prog 146 #[.agg #[.int .i64 (n : Int), .slice ra L.length rc]] w fun e w' => ∃ v xs, e = .returned v ∧ Own w' w.heap.size v xs ∧ xs.length = n ∧ Below w.heap.size w w' := by
 obtain ⟨w0, hw0⟩ : ∃ w0, w0 = w.alloc (.cells #[.int .i64 (n : Int), .slice ra L.length rc] 47) := ⟨_, rfl⟩
 have hb0 : Below w.heap.size w w0 := by rw [hw0]; exact (Below.refl _ _).alloc (Nat.le_refl _) _
 have k0 : Blk w0 w.heap.size 47 #[.int .i64 (n : Int), .slice ra L.length rc] := by rw [hw0]; exact Blk.new _ _ _ rfl
 have s0 : w.heap.size < w0.heap.size := k0.lt
 have BK := hide (show ∀ W, Below w0.heap.size w0 W → W.cell? ⟨w.heap.size, 1, none⟩ = some (.slice ra L.length rc) from fun W h => (k0.below h k0.lt).cell 1)
 have f0 := k0.cell 0
 have hLl := hx.len
 have HX := hide (hx.below hb0)
 have HB := hide hB
 have HW := Lib.hid hw0
 clear hx hB hw0
 go_enter Tryz.func146, Tryz.ntmps146
 go_upto_region 1 with fail
 rw [← HW.out]
 go_upto_region 2 with (refine wpList_make_ints rfl (.tmp 9) (.tmp 9) rfl .i64 .i64 n rfl rfl (by omega) ?_; intro w3 g3 o3 b3)
 have f1 := unhide BK _ b3
 clear f0
 go_wp2_with fail
 go_loopw [14] (fun iv wr => ∃ (i : Nat) (xs : List Int), iv = .int .i64 i ∧ i ≤ L.length ∧ Hid (xs.length = n) ∧ Hid (Own wr w0.heap.size (.slice (some ⟨g3, 0, none⟩) n n) xs) ∧ Below w0.heap.size w0 wr) (fun iv _ => L.length - (intOf iv).toNat)
 case atStart => exact ⟨0, zeros n, rfl, Nat.zero_le _, (by show (zeros n).length = n; simp [zeros]), o3, b3⟩
 case round =>
  obtain ⟨i, xs, rfl, hi, hxl, ho, hb⟩ := hrel
  have hsz := hb.size
  rename World => wo
  by_cases hil : i < L.length
  · have hok := unhide HB i hil
    obtain ⟨b1, o1, rfl, hb1, hcc⟩ := (unhide HX).at_ (by omega)
    obtain ⟨ai, ci, h3', hri⟩ := hcc i hil
    have h3 := (hb.cell (p := ⟨b1, o1 + i, none⟩) hb1).trans h3'
    obtain ⟨bs, hbs⟩ : ∃ bs, bs = nthL L i := ⟨_, rfl⟩
    rw [← hbs] at hok h3 hri
    have hbl : bs.length ≤ 32 := by have := okB_len hok; omega
    have HIN := hide (show ∀ k, k < bs.length → 0 ≤ nth bs k ∧ nth bs k < (n : Int) from fun k hk => okB_mem hok (nth_mem hk))
    have HRI := hide hri
    clear hok hbs h3' hri hcc
    go_wp2_with fail
    go_loopw [20] (fun kv wr => ∃ (k : Nat) (xs : List Int), kv = .int .i64 k ∧ k ≤ bs.length ∧ Hid (xs.length = n) ∧ Hid (Own wr w0.heap.size (.slice (some ⟨g3, 0, none⟩) n n) xs) ∧ Below w0.heap.size w0 wr) (fun kv _ => bs.length - (intOf kv).toNat)
    case atStart => exact ⟨0, xs, rfl, Nat.zero_le _, hxl, ho, hb⟩
    case round =>
     obtain ⟨k, xs, rfl, hk, hxl, ho, hb⟩ := hrel
     by_cases hkl : k < bs.length
     · obtain ⟨b2, o2, rfl, _, hc2⟩ := ((unhide HRI).below hb).at_ (by omega)
       have g2 := hc2 k hkl
       obtain ⟨hx0, hxn⟩ := (unhide HIN) k hkl
       obtain ⟨x, hxx⟩ : ∃ x : Nat, nth bs k = (x : Int) := ⟨(nth bs k).toNat, by omega⟩
       rw [hxx] at g2 hxn
       have hxl2 : x < n := by omega
       have hO := ho.out
       have c3 := hO.cell (j := x) (by rw [hxl.out]; exact hxl2)
       have p3 := hO.frozen x
       obtain ⟨z, hz⟩ : ∃ z, z = nth xs x := ⟨_, rfl⟩
       rw [← hz] at c3
       have hg3 : w0.heap.size ≤ g3 := (hO.lt g3 rfl).1
       have HO := hide hO
       clear hxx hz hc2 ho hO
       go_wp2
       go_roundw
       case rel => exact ⟨k + 1, xs.set x _, by go_num, by omega, (by show (xs.set x _).length = n; rw [List.length_set]; exact hxl.out), ((unhide HO).set x _).1, hb.setCell (p := ⟨g3, x, none⟩) hg3 _⟩
       case measure => simp only [intOf]; omega
     · go_wp2
       go_roundw
       case rel => exact ⟨i + 1, xs, by go_num, by omega, hxl, ho, hb⟩
       case measure => simp only [intOf]; omega
  · go_wp2
    go_ret
    exact ⟨_, xs, rfl, ho.out.mono (by omega), hxl.out, hb0.trans (hb.mono (by omega))⟩
end Go.Proofs.YtgfcbmflnldicaaGreat
namespace Go.Proofs.YtgfcbmflnldicaaGreat
open Go.RowKit
attribute [local go_sem ↓] Go.wp_at_zero Go.wp_at_succ
def CapS (w : World) (ra : Option Addr) (m : List (List Int)) : Prop := ∀ g ob, ra = some ⟨g, ob, none⟩ → ∀ k, k < m.length → ∀ ai n ci, w.cell? ⟨g, ob + k, none⟩ = some (.slice ai n ci) → n ≤ ci
theorem CapS.below {w w' : World} {ra : Option Addr} {m : List (List Int)} (h : CapS w ra m) (hm : RdS w ra m) (b : Below w.heap.size w w') : CapS w' ra m := by
 intro g ob e k hk ai n ci hc
 obtain ⟨g', ob', e', hg, _⟩ := hm.at_ (by omega)
 rw [e] at e'
 injection e' with e'
 injection e' with e1 e2
 subst e1
 exact h g ob e k hk ai n ci ((b.cell (p := ⟨g, ob + k, none⟩) hg).symm.trans hc)
theorem Rd.drop_ {w : World} {b off : Nat} {xs : List Int} (h : Rd w (some ⟨b, off, none⟩) xs) (j : Nat) : Rd w (some ⟨b, off + j, none⟩) (xs.drop j) := by
 refine ⟨by rw [List.length_drop]; have := h.len; omega, fun h0 => ?_⟩
 rw [List.length_drop] at h0
 obtain ⟨b', off', e, _, hc⟩ := h.at_ (by omega)
 injection e with e
 injection e with e1 e2
 subst e1; subst e2
 refine ⟨_, _, rfl, fun i hi => ?_⟩
 rw [List.length_drop] at hi
 rw [show off + j + i = off + (j + i) by omega, hc (j + i) (by omega)]
 congr 2
 rw [nth, nth, List.getD_eq_getElem?_getD, List.getD_eq_getElem?_getD, List.getElem?_drop]
end Go.Proofs.YtgfcbmflnldicaaGreat
namespace Go.Proofs.YtgfcbmflnldicaaGreat
open Go.RowKit
theorem OwnSH.caps {w : World} {B hi rc : Nat} {ra : Option Addr} {xss : List (List Int)} (h : OwnSH w B hi (.slice ra xss.length rc) xss) : CapS w ra xss := by
 intro g ob e k hk ai n' ci hc
 subst e
 obtain ⟨_, vs, hr, hin, _⟩ := h
 have hv := hin.1
 rcases hr.2 with ⟨e1, _⟩ | ⟨g2, cap, cur, e1, _⟩
 · injection e1 with e1; simp at e1
 · injection e1 with e1 _ _
   injection e1 with e1
   injection e1 with e1 e2 _
   subst e1; subst e2
   have hkv : k < vs.length := by omega
   have h1 := hr.cellAt k (by omega)
   rw [Nat.zero_add, h1, List.getElem?_eq_getElem hkv] at hc
   injection hc with hc
   obtain ⟨_, h2⟩ := hin.2.1 k vs[k] (List.getElem?_eq_getElem hkv)
   rw [hc] at h2
   rcases h2.2 with ⟨e3, _⟩ | ⟨g3, cap3, cur3, e3, _, _, h4, _⟩
   · injection e3 with _ e4 _; omega
   · injection e3 with _ e4 e5; omega
theorem OwnCH.caps {w : World} {B hi n c rc : Nat} {a ra : Option Addr} {xs : List Int} {xss : List (List Int)} (h : OwnCH w B hi (.slice a n c) (.slice ra xss.length rc) xs xss) : CapS w ra xss := by
 obtain ⟨_, _, _, _, h⟩ := h
 exact h.caps
end Go.Proofs.YtgfcbmflnldicaaGreat
namespace Go.Proofs.YtgfcbmflnldicaaGreat
open Go.RowKit
attribute [local go_sem ↓] Go.wp_at_zero Go.wp_at_succ
theorem ent_es1 : ∀ (args : Array Value) (w : World), (callFunc 246 args).run Tryz.prog w = .ok (.enter 246 args) w := fun _ _ => by kernel_rfl
theorem zero1_any (x y : Int) (w : World) : Calls Tryz.prog 246 #[.int .i64 x, .int .i64 y] w fun e w' => e = .returned (.int .i64 0) ∧ Below w.heap.size w w' := by
 go_enter Tryz.func246, Tryz.ntmps246
 go_wp2_with fail
 go_ret
 exact ⟨rfl, Below.refl _ _⟩
theorem zeros_succ' (k : Nat) : List.replicate (k + 1) (0 : Int) = List.replicate k 0 ++ [0] := List.replicate_succ'
theorem zerow_succ' (m : Nat) (r : List Int) : List.replicate (m + 1) r = List.replicate m r ++ [r] := List.replicate_succ'
theorem zfilled_any (n : Nat) (w : World) (hnb : n ≤ 32) :
    Calls Tryz.prog 245 #[.int .i64 n, (.func (.func 246) #[] #[])] w fun e w' => ∃ v, e = .returned v ∧ OwnS w' w.heap.size v (List.replicate n (List.replicate n 0)) ∧ Below w.heap.size w w' := by
 have hent := ent_es1
 have hbi := fun (i k : Int) W => zero1_any i k W
 have HBI := hide hbi
 clear hbi
 go_enter Tryz.func245, Tryz.ntmps245
 go_wp2_with fail
 go_loopw [5, 6] (fun v iv wr => ∃ m : Nat, iv = .int .i64 m ∧ m ≤ n ∧ Hid (OwnS wr w.heap.size v (List.replicate m (List.replicate n 0))) ∧ Below w.heap.size w wr) (fun _ iv _ => n - (intOf iv).toNat)
 case atStart => exact ⟨0, rfl, Nat.zero_le _, OwnS.nil _ _, Below.refl _ _⟩
 case round =>
  obtain ⟨m, rfl, hm, ho, hb⟩ := hrel
  have hsz := hb.size
  rename World => wo
  by_cases hmn : m < n
  · have HMS := Lib.hid (zerow_succ' m (List.replicate n 0))
    have hml : (List.replicate m (List.replicate n (0 : Int))).length = m := by simp
    obtain ⟨RR, hRR⟩ : ∃ RR, RR = List.replicate m (List.replicate n (0 : Int)) := ⟨_, rfl⟩
    rw [← hRR] at ho HMS hml
    have HML := Lib.hid hml
    clear hml hRR
    go_wp2_with fail
    go_loopw [7, 8] (fun v iv wr => ∃ k : Nat, iv = .int .i64 k ∧ k ≤ n ∧ Hid (Own wr wo.heap.size v (List.replicate k 0)) ∧ Below wo.heap.size wo wr) (fun _ iv _ => n - (intOf iv).toNat)
    case atStart => exact ⟨0, rfl, Nat.zero_le _, Own.nil _ _, Below.refl _ _⟩
    case round =>
     obtain ⟨k, rfl, hk, hor, hbr⟩ := hrel
     have hbw := hb.trans (hbr.mono hsz)
     have hszr := hbr.size
     by_cases hkn : k < n
     · have hst := zeros_succ' k
       have hrl : (List.replicate k (0 : Int)).length = k := by simp
       obtain ⟨row, hrw⟩ : ∃ row, row = List.replicate k (0 : Int) := ⟨_, rfl⟩
       rw [← hrw] at hor hst hrl
       have HST := Lib.hid hst
       have HRL := Lib.hid hrl
       clear hst hrw hrl
       go_wp2_with fail
       refine ((unhide HBI) _ _ _).mono ?_
       rintro e w3 ⟨rfl, b3⟩
       have hb3 := hbr.trans (b3.mono hszr)
       have o3 := hor.out.below b3 (Nat.le_refl _)
       have s3 := hb3.size
       obtain ⟨a3, c3, rfl, _, _⟩ := o3.form
       have O3 := hide o3
       clear o3 hor
       go_wp2_with (at_builtin; refine wpList_append_ints rfl (.tmp 19) (.tmp 24) rfl wo.heap.size _ row [0] rfl ((unhide O3).alloc _) _ 1 1 rfl rfl (Rd.one w3 0 _) (by rw [HRL.out]; simp; omega) (by simp; omega) ?_; intro v5 w5 o5 g5 _)
       go_roundw
       case rel => exact ⟨k + 1, by go_num, by omega, by show Own _ _ _ _; rw [HST.out]; exact o5, (hb3.alloc (by omega) _).grown g5 (by simp; omega) (fun q hq => by have := ((unhide O3).lt q hq).1; omega)⟩
       case measure => simp only [intOf]; omega
     · have hke : k = n := by omega
       have oR := hor.out
       rw [hke] at oR
       obtain ⟨a4, c4, rfl, _, _⟩ := oR.form
       have hrl : (List.replicate n (0 : Int)).length = n := by simp
       obtain ⟨row, hrw⟩ : ∃ row, row = List.replicate n (0 : Int) := ⟨_, rfl⟩
       rw [← hrw] at oR hrl HMS
       rw [← hrw]
       have HRW := Lib.hid hrw
       have OR := hide oR
       have hH := ho.out.toH.belw hbr (Nat.le_refl _)
       have HH := hide hH
       clear hke hrw oR hrl hor ho hH
       go_wp2_with (at_builtin; refine wpList_append_row rfl (.tmp 26) (.tmp 28) rfl (v := u5) rfl ((unhide HH).belw ((Below.refl _ _).alloc (Nat.le_refl _) _) (by omega)) _ rfl ((Blk.new wr 24 #[.slice a4 row.length c4] rfl).cell 0) ((unhide OR).alloc _) hsz (by simp; omega) (by rw [HML.out]; omega) ?_; intro v6 w6 o6 g6 _)
       go_roundw
       case rel =>
        refine ⟨m + 1, by go_num, by omega, ?_, Below.stepS (hbw.alloc (by omega) _) g6 ((unhide HH).belw ((Below.refl _ _).alloc (Nat.le_refl _) _) (by omega)).own (Nat.le_refl _) (by simp; omega)⟩
        show OwnS _ _ _ _
        rw [← HRW.out, HMS.out]
        exact o6
       case measure => simp only [intOf]; omega
  · have hme : m = n := by omega
    have hoo := ho.out
    rw [hme] at hoo
    have HOO := hide hoo
    clear hme hoo ho
    go_wp2_with fail
    go_ret
    exact ⟨_, rfl, unhide HOO, hb⟩
theorem emptySq_any (n : Nat) (w : World) (hnb : n ≤ 32) :
    Calls Tryz.prog 200 #[.int .i64 n] w fun e w' => ∃ v, e = .returned v ∧ OwnS w' w.heap.size v (tabQ n []) ∧ Below w.heap.size w w' := by
 have hZ := zfilled_any n w hnb
 rw [← tabQ_zero] at hZ
 have HZ := hide hZ
 clear hZ
 go_enter Tryz.func200, Tryz.ntmps200
 go_wp2_with fail
 refine (unhide HZ).mono ?_
 rintro e w1 ⟨v, rfl, o1, b1⟩
 go_wp2
 go_ret
 exact ⟨_, rfl, o1, b1⟩
end Go.Proofs.YtgfcbmflnldicaaGreat
namespace Go.Proofs.YtgfcbmflnldicaaGreat
open Go.RowKit
attribute [local go_sem ↓] Go.wp_at_zero Go.wp_at_succ
def QT (bs : List Int) (i t : Nat) : List (Int × Int) := ((bs.drop (i + 1)).take t).map fun y => (nth bs i, y)
theorem QT_zero (bs : List Int) (i : Nat) : QT bs i 0 = [] := rfl
theorem nth_drop' (xs : List Int) (i t : Nat) : nth (xs.drop i) t = nth xs (i + t) := by simp [nth]
theorem QT_succ {bs : List Int} {i t : Nat} (h : t < (bs.drop (i + 1)).length) : QT bs i (t + 1) = QT bs i t ++ [(nth bs i, nth (bs.drop (i + 1)) t)] := by
 rw [QT, QT, take_nth h, List.map_append]
 rfl
theorem QT_all {bs : List Int} {i t : Nat} (h : t = (bs.drop (i + 1)).length) : QI bs i ++ QT bs i t = QI bs (i + 1) := by
 rw [QI_succ, QT, h, List.take_length]
theorem QI_len (bs : List Int) : ∀ i, (QI bs i).length ≤ i * bs.length
 | 0 => by simp [QI]
 | i + 1 => by
  have := QI_len bs i
  rw [QI_succ, List.length_append, List.length_map, List.length_drop, Nat.succ_mul]
  omega
theorem QT_len (bs : List Int) (i t : Nat) : (QT bs i t).length ≤ t := by
 rw [QT, List.length_map, List.length_take]; omega
theorem QB_len {N : Nat} : ∀ (L : List (List Int)), (∀ b ∈ L, b.length ≤ N) → (QB L).length ≤ L.length * (N * N)
 | [], _ => by simp [QB]
 | b :: L, h => by
  have h1 := QB_len (N := N) L (fun c hc => h c (List.mem_cons_of_mem _ hc))
  have h2 := QI_len b b.length
  have h3 := h b List.mem_cons_self
  have h4 : b.length * b.length ≤ N * N := Nat.mul_le_mul h3 h3
  rw [QB, List.flatMap_cons, List.length_append, List.length_cons, Nat.succ_mul]
  rw [QB] at h1
  omega
theorem Own.drop_rd {w : World} {B h n c : Nat} {xs : List Int} (o : Own w B (.slice (some ⟨h, 0, none⟩) n c) xs) (j : Nat) : Rd w (some ⟨h, 0 + j, none⟩) (xs.drop j) := o.rd.drop_ j
theorem pairCounts_any (n : Nat) (ra : Option Addr) (rc : Nat) (L : List (List Int)) (w : World) (hx : RdS w ra L) (hcap : CapS w ra L) (hn : n ≤ 32) (hm : L.length ≤ 128) (hB : ∀ k, k < L.length → okB n (nthL L k) = true) :
    Calls Tryz.prog 145 #[.agg #[.int .i64 (n : Int), .slice ra L.length rc]] w fun e w' => ∃ v, e = .returned v ∧ Own w' w.heap.size v (pairsUp n L n) ∧ Below w.heap.size w w' := by
 obtain ⟨w0, hw0⟩ : ∃ w0, w0 = w.alloc (.cells #[.int .i64 (n : Int), .slice ra L.length rc] 47) := ⟨_, rfl⟩
 have hb0 : Below w.heap.size w w0 := by rw [hw0]; exact (Below.refl _ _).alloc (Nat.le_refl _) _
 have k0 : Blk w0 w.heap.size 47 #[.int .i64 (n : Int), .slice ra L.length rc] := by rw [hw0]; exact Blk.new _ _ _ rfl
 have s0 : w.heap.size < w0.heap.size := k0.lt
 have hlt0 : w0.heap.size = w.heap.size + 1 := by rw [hw0]; simp
 have HCE := hide (show ∀ W, Below w0.heap.size w0 W → W.cell? ⟨w.heap.size, 1, none⟩ = some (.slice ra L.length rc) from fun W h => (k0.below h k0.lt).cell 1)
 have f0 := k0.cell 0
 have hx0 := hx.below hb0
 have hcap0 := hcap.below hx hb0
 have HPW := hide (show ∀ b ∈ L, b.Pairwise (· < ·) from fun b hb => by
  obtain ⟨k, hk, rfl⟩ := List.getElem_of_mem hb
  have := hB k hk
  rw [nthL_lt hk] at this
  exact okB_rises this)
 have HQL := hide (show ∀ k, (QB (L.take k)).length ≤ 131072 from fun k => by
  have h := QB_len (N := 32) (L.take k) (fun b hb => by
   obtain ⟨j, hj, rfl⟩ := List.getElem_of_mem (List.mem_of_mem_take hb)
   have := hB j hj
   rw [nthL_lt hj] at this
   have := okB_len this
   omega)
  rw [List.length_take] at h
  have : min k L.length * (32 * 32) ≤ 128 * (32 * 32) := Nat.mul_le_mul_right _ (by omega)
  omega)
 have hE := fun W (h : Below w0.heap.size w0 W) => emptySq_any n w0 hn
 have HEM := hide (emptySq_any n w0 hn)
 have HX := hide hx0
 have HCAP := hide hcap0
 have HB := hide hB
 have HW := Lib.hid hw0
 clear hx hB hw0 hx0 hcap hcap0 hE
 go_enter Tryz.func145, Tryz.ntmps145
 go_upto_region 1 with fail
 rw [← HW.out]
 go_wp2_with fail
 refine (unhide HEM).mono ?_
 rintro e w1 ⟨v1, rfl, o1, b1⟩
 obtain ⟨av, cv, rfl, _⟩ := o1.form
 have f1 := unhide HCE _ b1
 rw [tabQ_len] at o1 ⊢
 have O1 := hide o1
 clear f0 o1
 go_wp2_with fail
 go_loopw [19] (fun kv wr => ∃ k : Nat, kv = .int .i64 k ∧ k ≤ L.length ∧ Hid (OwnS wr w0.heap.size (.slice av n cv) (tabQ n (QB (L.take k)))) ∧ Below w0.heap.size w0 wr) (fun kv _ => L.length - (intOf kv).toNat)
 case atStart => exact ⟨0, rfl, Nat.zero_le _, O1, b1⟩
 case round =>
  obtain ⟨k, rfl, hk, ho, hb⟩ := hrel
  have hsz := hb.size
  rename World => wk
  by_cases hkl : k < L.length
  · obtain ⟨b1', o1', rfl, hb1', hcc⟩ := (unhide HX).at_ (by omega)
    obtain ⟨ai, ci, h3', hri⟩ := hcc k hkl
    have hcx := (unhide HCAP) b1' o1' rfl k hkl _ _ _ h3'
    have h3 := (hb.cell (p := ⟨b1', o1' + k, none⟩) hb1').trans h3'
    have hok := unhide HB k hkl
    have hqb := QB_take hkl
    have hql := (unhide HQL) k
    obtain ⟨bs, hbs⟩ : ∃ bs, bs = nthL L k := ⟨_, rfl⟩
    rw [← hbs] at h3 hri hok hcx hqb
    obtain ⟨Q, hQ⟩ : ∃ Q, Q = QB (L.take k) := ⟨_, rfl⟩
    rw [← hQ] at hqb hql ho
    have HQB := Lib.hid hqb
    have hbl : bs.length ≤ 32 := by have := okB_len hok; omega
    have hb0' : 0 < bs.length := by
     by_cases h : 0 < bs.length
     · exact h
     · rw [okB_nil h] at hok; cases hok
    have HIN := hide (show ∀ j, j < bs.length → 0 ≤ nth bs j ∧ nth bs j < (n : Int) from fun k hk => okB_mem hok (nth_mem hk))
    obtain ⟨bb, bo, rfl, hbb, hbc⟩ := hri.at_ hb0'
    have HRI := hide hri
    have HBC := hide hbc
    have OO := hide ho.out
    clear hbs hok hcc ho hri h3' hqb hQ hbc
    go_wp2_with fail
    go_loopw [25] (fun iv wr => ∃ i : Nat, iv = .int .i64 i ∧ i ≤ bs.length ∧ Hid (OwnS wr w0.heap.size (.slice av n cv) (tabQ n (Q ++ QI bs i))) ∧ Below w0.heap.size w0 wr) (fun iv _ => bs.length - (intOf iv).toNat)
    case atStart => exact ⟨0, rfl, Nat.zero_le _, by show OwnS _ _ _ _; rw [show QI bs 0 = [] from rfl, List.append_nil]; exact unhide OO, hb⟩
    case round =>
     obtain ⟨i, rfl, hi, ho, hb⟩ := hrel
     have hsz2 := hb.size
     rename World => wi
     by_cases hil : i < bs.length
     · have g2 := (hb.cell (p := ⟨bb, bo + i, none⟩) hbb).trans (unhide HBC i hil)
       obtain ⟨hx0, hxn⟩ := (unhide HIN) i hil
       obtain ⟨x, hxx⟩ : ∃ x : Nat, nth bs i = (x : Int) := ⟨(nth bs i).toNat, by omega⟩
       rw [hxx] at g2 hxn
       have hxl : x < n := by omega
       have HXX := Lib.hid hxx
       obtain ⟨J, hJ⟩ : ∃ J, J = i + 1 := ⟨_, rfl⟩
       have hwj : IntKind.i64.wrap ((i : Int) + 1) = (J : Int) := by rw [IntWalk.i64_in _ (by omega)]; omega
       have hJn : J ≤ bs.length := by omega
       have HJ := Lib.hid hJ
       have hqi := QI_len bs i
       have hqi2 : i * bs.length ≤ 32 * 32 := Nat.mul_le_mul (by omega) hbl
       have hdl : (bs.drop J).length = bs.length - J := by rw [List.length_drop]
       have hdp := (unhide HRI).drop_ J
       obtain ⟨ds, hds⟩ : ∃ ds, ds = bs.drop J := ⟨_, rfl⟩
       have HDS := Lib.hid hds
       rw [← hds] at hdl hdp
       have HIN2 := hide (show ∀ j, j < ds.length → 0 ≤ nth ds j ∧ nth ds j < (n : Int) from fun j hj => by
        rw [hds, nth_drop']
        exact (unhide HIN) _ (by rw [hdl] at hj; omega))
       have HQT := hide (show ∀ t, t < ds.length → QT bs i (t + 1) = QT bs i t ++ [((x : Int), nth ds t)] from fun t ht => by
        have := QT_succ (bs := bs) (i := i) (t := t) (by rw [← hJ, ← hds]; exact ht)
        rw [hxx, ← hJ, ← hds] at this
        exact this)
       have HQA := hide (show ∀ t, t = ds.length → QI bs i ++ QT bs i t = QI bs J from fun t ht => by rw [hJ]; exact QT_all (by rw [← hJ, ← hds]; exact ht))
       have HDP := hide hdp
       have HDL := Lib.hid hdl
       have OI := hide ho.out
       clear hxx hds hdp hJ ho hdl
       by_cases hcj : ci = J
       · subst hcj
         go_wp2_with fail
         go_loopw [35] (fun tv wr => ∃ t : Nat, tv = .int .i64 t ∧ t ≤ bs.length - ci ∧ Hid (OwnS wr w0.heap.size (.slice av n cv) (tabQ n (Q ++ QI bs i ++ QT bs i t))) ∧ Below w0.heap.size w0 wr) (fun tv _ => bs.length - (intOf tv).toNat)
         case atStart => exact ⟨0, rfl, Nat.zero_le _, by show OwnS _ _ _ _; rw [QT_zero, List.append_nil]; exact unhide OI, hb⟩
         case round =>
          obtain ⟨t, rfl, ht, ho, hb⟩ := hrel
          have hszt := hb.size
          by_cases htl : t < bs.length - ci
          · exfalso; omega
          · have hte : t = bs.length - ci := by omega
            have o6 := ho.out
            rw [List.append_assoc, (unhide HQA) t (by rw [HDL.out]; exact hte)] at o6
            have O6 := hide o6
            clear o6 ho hte
            go_wp2
            go_roundw
            case rel => exact ⟨ci, by go_num, hJn, unhide O6, hb⟩
            case measure => simp only [intOf]; have := HJ.out; omega
       · skip
         go_wp2_with fail
         go_loopw [35] (fun tv wr => ∃ t : Nat, tv = .int .i64 t ∧ t ≤ bs.length - J ∧ Hid (OwnS wr w0.heap.size (.slice av n cv) (tabQ n (Q ++ QI bs i ++ QT bs i t))) ∧ Below w0.heap.size w0 wr) (fun tv _ => bs.length - (intOf tv).toNat)
         case atStart => exact ⟨0, rfl, Nat.zero_le _, by show OwnS _ _ _ _; rw [QT_zero, List.append_nil]; exact unhide OI, hb⟩
         case round =>
          obtain ⟨t, rfl, ht, ho, hb⟩ := hrel
          have hszt := hb.size
          by_cases htl : t < bs.length - J
          · obtain ⟨_, _, e7, _, hc7⟩ := (unhide HDP).at_ (by rw [HDL.out]; omega)
            injection e7 with e7
            injection e7 with e7 e8 _
            subst e7
            subst e8
            have g3 := (hb.cell (p := ⟨bb, bo + J + t, none⟩) hbb).trans ((hc7 t (by rw [HDL.out]; exact htl)).trans rfl)
            obtain ⟨hy0, hyn⟩ := (unhide HIN2) t (by rw [HDL.out]; exact htl)
            obtain ⟨y, hyy⟩ : ∃ y : Nat, nth ds t = (y : Int) := ⟨(nth ds t).toNat, by omega⟩
            have hqt := (unhide HQT) t (by rw [HDL.out]; exact htl)
            rw [hyy] at g3 hyn hqt
            have hyl : y < n := by omega
            have hqtl := QT_len bs i t
            have hQl : (Q ++ QI bs i ++ QT bs i t).length ≤ 200000 := by rw [List.length_append, List.length_append]; omega
            obtain ⟨QQ, hQQ⟩ : ∃ QQ, QQ = Q ++ QI bs i ++ QT bs i t := ⟨_, rfl⟩
            have hnx : Q ++ QI bs i ++ QT bs i (t + 1) = QQ ++ [((x : Int), (y : Int))] := by rw [hqt, hQQ, List.append_assoc, List.append_assoc, List.append_assoc]
            have HNX := Lib.hid hnx
            rw [← hQQ] at ho hQl
            have his := tabQ_set QQ hxl hyl
            have hat := tabQ_at QQ hxl hyl
            have hcl := count_le (Q := QQ) ((x : Int), (y : Int))
            obtain ⟨g5, c5, e5, _, _, _, _⟩ := ho.out.at_ (by rw [tabQ_len]; omega)
            injection e5 with e5 e51 e52
            clear e51 e52
            subst e5
            obtain ⟨ak, ck, hown, hcr, hput⟩ := ho.out.toH.row (i := x) (by rw [tabQ_len]; exact hxl)
            have hrl := tabQ_rowlen QQ hxl
            have qc := hcr _ _ _ _ rfl
            rw [Nat.zero_add] at qc
            obtain ⟨row, hrow⟩ : ∃ row, row = nthL (tabQ n QQ) x := ⟨_, rfl⟩
            rw [← hrow] at hown hput hrl qc his hat
            obtain ⟨h, hak, hh1⟩ : ∃ h, ak = some ⟨h, 0, none⟩ ∧ w0.heap.size ≤ h := by
             rcases hown.1.slice_form with ⟨_, e⟩ | ⟨h, c', e, h1, _⟩
             · rw [e] at hrl; simp at hrl; omega
             · injection e with e1 _ _
               exact ⟨h, e1, h1⟩
            subst hak
            obtain ⟨z, hz⟩ : ∃ z, z = nth row y := ⟨_, rfl⟩
            rw [← hz] at his hat
            have hst := hown.1.set y (z + 1)
            have hpp := hput _ _ ⟨hst.1, hown.2⟩ (by simp) hst.2
            rw [his] at hpp
            have cc := hown.1.cell (j := y) (by omega)
            have pp := hown.1.frozen y
            rw [← hz] at cc
            rw [hrl] at qc
            have hwz : IntKind.i64.wrap (z + 1) = z + 1 := IntWalk.i64_in _ (by rw [hat]; omega)
            have HPP := hide hpp.own
            have HB5 := hide (hb.setCell (p := ⟨h, y, none⟩) hh1 (.int .i64 (z + 1)))
            clear hyy his hown hcr hput hrow hst hpp hz hat hcl hc7 hrl hnx hqt hQQ ho hQl hqtl
            go_wp2
            go_roundw
            case rel => exact ⟨t + 1, by go_num, by omega, by show OwnS _ _ _ _; rw [HNX.out]; exact unhide HPP, unhide HB5⟩
            case measure => simp only [intOf]; omega
          · have hte : t = bs.length - J := by omega
            have o6 := ho.out
            rw [List.append_assoc, (unhide HQA) t (by rw [HDL.out]; exact hte)] at o6
            have O6 := hide o6
            clear o6 ho hte
            go_wp2
            go_roundw
            case rel => exact ⟨J, by go_num, hJn, unhide O6, hb⟩
            case measure => simp only [intOf]; have := HJ.out; omega
     · have hie : i = bs.length := by omega
       have o6 := ho.out
       rw [hie, ← HQB.out] at o6
       have O6 := hide o6
       clear o6 ho hie
       go_wp2_with fail
       go_roundw
       case rel => exact ⟨k + 1, by go_num, by omega, unhide O6, hb⟩
       case measure => simp only [intOf]; omega
  · have hke : k = L.length := by omega
    have o5 := ho.out
    rw [hke, List.take_length] at o5
    have HTB := hide (fun a (ha : a < n) => tabQ_rowP (unhide HPW) ha)
    have TL := tabQ_len n (QB L)
    have HRL := hide (fun a (ha : a < n) => tabQ_rowlen (n := n) (QB L) ha)
    obtain ⟨TT, hTT⟩ : ∃ TT, TT = tabQ n (QB L) := ⟨_, rfl⟩
    rw [← hTT] at o5 HTB TL HRL
    have O5 := hide o5
    have HTL := Lib.hid TL
    clear o5 ho hke TL hTT
    go_wp2_with fail
    go_loopw [10, 53] (fun v av' wr => ∃ a : Nat, av' = .int .i64 a ∧ a ≤ n ∧ Hid (Own wr wk.heap.size v (pairsUp n L a)) ∧ Below wk.heap.size wk wr) (fun _ av' _ => n - (intOf av').toNat)
    case atStart => exact ⟨0, rfl, Nat.zero_le _, Own.nil _ _, Below.refl _ _⟩
    case round =>
     obtain ⟨a, rfl, ha, hoa, hba⟩ := hrel
     have hsza := hba.size
     have hbA := hb.trans (hba.mono hsz)
     by_cases han : a < n
     · have hO := (unhide O5).below hba (Nat.le_refl _)
       obtain ⟨g5, c5, e5, _, _, _, _⟩ := hO.at_ (by rw [HTL.out]; omega)
       injection e5 with e5 e51 e52
       clear e51 e52
       subst e5
       obtain ⟨ak, ck, hown, hcr, _⟩ := hO.row (i := a) (by rw [HTL.out]; exact han)
       have qc := hcr _ _ _ _ rfl
       rw [Nat.zero_add] at qc
       have hrl := (unhide HRL) a han
       have hdr := (unhide HTB) a han
       obtain ⟨row, hrow⟩ : ∃ row, row = nthL TT a := ⟨_, rfl⟩
       rw [← hrow] at hown qc hrl hdr
       obtain ⟨h, hak, _⟩ : ∃ h, ak = some ⟨h, 0, none⟩ ∧ w0.heap.size ≤ h := by
        rcases hown.slice_form with ⟨_, e⟩ | ⟨h, c', e, h1, _⟩
        · rw [e] at hrl; simp at hrl; omega
        · injection e with e1 _ _
          exact ⟨h, e1, h1⟩
       subst hak
       obtain ⟨J, hJ⟩ : ∃ J, J = a + 1 := ⟨_, rfl⟩
       have hwj : IntKind.i64.wrap ((a : Int) + 1) = (J : Int) := by rw [IntWalk.i64_in _ (by omega)]; omega
       have hJn : J ≤ n := by omega
       have hck : n ≤ ck := by have := (hown.cap).1; omega
       have hdp := hown.drop_rd J
       rw [hJ, hdr, ← hJ] at hdp
       have hps : pairsUp n L J = pairsUp n L a ++ rowP n L a := by rw [hJ]; exact pairsUp_succ n L a
       have hpl := pairsUp_len n L a
       have hpl2 : a * n ≤ 32 * 32 := Nat.mul_le_mul (by omega) hn
       have hrpl := rowP_len n L a
       rw [← hJ] at hrpl
       obtain ⟨P, hP⟩ : ∃ P, P = pairsUp n L a := ⟨_, rfl⟩
       obtain ⟨R, hR⟩ : ∃ R, R = rowP n L a := ⟨_, rfl⟩
       rw [← hP] at hps hpl hoa
       rw [← hR] at hps hrpl hdp
       obtain ⟨ap, cp, rfl, _, _⟩ := hoa.out.form
       rw [hrl] at qc
       have HPS := Lib.hid hps
       have HRPL := Lib.hid hrpl
       have HJ := Lib.hid hJ
       have HDP := hide hdp
       have HOA := hide hoa.out
       clear hO hown hcr hrl hdr hrow hps hrpl hP hR hdp hoa hJ
       by_cases hcj : ck = J
       · have hR0 : R = [] := List.eq_nil_of_length_eq_zero (by rw [HRPL.out]; omega)
         subst hR0
         have e1 : n - J = 0 := by omega
         have HE1 := Lib.hid e1
         subst hcj
         clear e1
         go_wp2_with (at_builtin; refine wpList_append_ints rfl (.tmp 58) (.tmp 62) rfl wk.heap.size _ P [] rfl (unhide HOA) _ _ _ rfl (by first | rfl | exact HE1.out) (Rd.nil _ _) (by simp; omega) (by omega) ?_; intro v5 w5 o5 gg5 _)
         have b5 := Below.step hba gg5 (unhide HOA) (Nat.le_refl _) (by omega)
         have o5' : Own w5 wk.heap.size v5 (pairsUp n L ck) := by rw [HPS.out]; exact o5
         have O5' := hide o5'
         clear o5 o5' gg5
         go_roundw
         case rel => exact ⟨ck, by go_num, hJn, unhide O5', b5⟩
         case measure => simp only [intOf]; have := HJ.out; omega
       · go_wp2_with (at_builtin; refine wpList_append_ints rfl (.tmp 58) (.tmp 62) rfl wk.heap.size _ P R rfl (unhide HOA) _ _ _ rfl HRPL.out.symm (by have := unhide HDP; simpa using this) (by rw [HRPL.out]; omega) (by omega) ?_; intro v5 w5 o5 gg5 _)
         have b5 := Below.step hba gg5 (unhide HOA) (Nat.le_refl _) (by omega)
         have o5' : Own w5 wk.heap.size v5 (pairsUp n L J) := by rw [HPS.out]; exact o5
         have O5' := hide o5'
         clear o5 o5' gg5
         go_roundw
         case rel => exact ⟨J, by go_num, hJn, unhide O5', b5⟩
         case measure => simp only [intOf]; have := HJ.out; omega
     · have hae : a = n := by omega
       have hoo := hoa.out
       rw [hae] at hoo
       have HOO := hide hoo
       clear hae hoo hoa
       go_wp2
       go_ret
       exact ⟨_, rfl, (unhide HOO).mono (by omega), hb0.trans (hbA.mono (by omega))⟩
end Go.Proofs.YtgfcbmflnldicaaGreat
namespace Go.Proofs.YtgfcbmflnldicaaGreat
open Go.RowKit
attribute [local go_sem ↓] Go.wp_at_zero Go.wp_at_succ
def ResP (w : World) (r : Bool) (e : Ending) (w' : World) : Prop := ∃ q0 q1 q2 q3 q4 : Int, e = .returned (.tuple #[.agg #[.int .i64 q0, .int .i64 q1, .int .i64 q2, .int .i64 q3, .int .i64 q4], .bool r]) ∧ Below w.heap.size w w'
theorem bal_small {n : Nat} {L : List (List Int)} (h : ¬ 2 ≤ n) : bal n L = false := by simp [bal, h]
theorem bal_none {n : Nat} {L : List (List Int)} (h : ¬ 0 < L.length) : bal n L = false := by simp [bal, h]
theorem bal_short {n : Nat} {L : List (List Int)} (h : ¬ 2 ≤ (nthL L 0).length) : bal n L = false := by simp [bal, h]
theorem bal_len {n : Nat} {L : List (List Int)} (h : allLen L = false) : bal n L = false := by simp [bal, h]
theorem bal_same {n : Nat} {L : List (List Int)} (h : allSame (pairsUp n L n) = false) : bal n L = false := by simp [bal, h]
theorem bal_yes {n : Nat} {L : List (List Int)} (h1 : 2 ≤ n) (h2 : 0 < L.length) (h3 : 2 ≤ (nthL L 0).length) (h4 : allLen L = true) (h5 : allSame (pairsUp n L n) = true) : bal n L = true := by simp [bal, h1, h2, h3, h4, h5]
theorem pairsUp_pos {n : Nat} (L : List (List Int)) (h : 2 ≤ n) : 0 < (pairsUp n L n).length := by
 have e : pairsUp n L 1 = rowP n L 0 := by rw [show (1 : Nat) = 0 + 1 from rfl, pairsUp_succ]; rfl
 have : ∀ a, 1 ≤ a → 1 ≤ (pairsUp n L a).length := fun a => by
  induction a with
  | zero => omega
  | succ a ih =>
   intro _
   by_cases h0 : a = 0
   · subst h0
     rw [e, rowP_len]; omega
   · rw [pairsUp_succ, List.length_append]
     have := ih (by omega)
     omega
 exact this n (by omega)
end Go.Proofs.YtgfcbmflnldicaaGreat
namespace Go.Proofs.YtgfcbmflnldicaaGreat
open Go.RowKit
attribute [local go_sem ↓] Go.wp_at_zero Go.wp_at_succ
theorem l10Parameters_any (g n : Nat) (ra : Option Addr) (rc : Nat) (L : List (List Int)) (w : World) (hc0 : w.cell? ⟨g, 0, none⟩ = some (.int .i64 (n : Int))) (hc1 : w.cell? ⟨g, 1, none⟩ = some (.slice ra L.length rc)) (hx : RdS w ra L) (hn : n ≤ 32) (hm : L.length ≤ 128) (hB : ∀ k, k < L.length → okB n (nthL L k) = true) :
    Calls Tryz.prog 75 #[.pointer (some ⟨g, 0, none⟩)] w (ResP w (bal n L)) := by
 have hgl : g < w.heap.size := World.block_lt_of_cell? _ _ hc0
 obtain ⟨w0, hw0⟩ : ∃ w0, w0 = w.alloc (.cells #[.int .i64 0, .int .i64 0, .int .i64 0, .int .i64 0, .int .i64 0] 104) := ⟨_, rfl⟩
 have hb0 : Below w.heap.size w w0 := by rw [hw0]; exact (Below.refl _ _).alloc (Nat.le_refl _) _
 have kP : Blk w0 w.heap.size 104 #[.int .i64 0, .int .i64 0, .int .i64 0, .int .i64 0, .int .i64 0] := by rw [hw0]; exact Blk.new _ _ _ rfl
 have s0 : w.heap.size < w0.heap.size := kP.lt
 have HCE := hide (show ∀ W, Below w0.heap.size w0 W → W.cell? ⟨g, 0, none⟩ = some (.int .i64 (n : Int)) ∧ W.cell? ⟨g, 1, none⟩ = some (.slice ra L.length rc) from fun W h => ⟨((hb0.trans (h.mono (by omega))).cell (p := ⟨g, 0, none⟩) hgl).trans hc0, ((hb0.trans (h.mono (by omega))).cell (p := ⟨g, 1, none⟩) hgl).trans hc1⟩)
 have HPC := hide (show ∀ W, Below w0.heap.size w0 W → Calls Tryz.prog 138 #[.pointer (some ⟨g, 0, none⟩)] W fun e w' => ∃ v, e = .returned v ∧ Own w' W.heap.size v (pairsUp n L n) ∧ Below W.heap.size W w' from fun W h => l10Pairs_any g n ra rc L W ((unhide HCE) W h).1 ((unhide HCE) W h).2 ((hx.below hb0).below h) hn (by omega))
 have HRP := hide (show ∀ W, Below w0.heap.size w0 W → Calls Tryz.prog 139 #[.pointer (some ⟨g, 0, none⟩)] W fun e w' => ∃ v xs, e = .returned v ∧ Own w' W.heap.size v xs ∧ xs.length = n ∧ Below W.heap.size W w' from fun W h => l10Replications_any g n ra rc L W ((unhide HCE) W h).1 ((unhide HCE) W h).2 ((hx.below hb0).below h) hn hB)
 have HX := hide (hx.below hb0)
 have f0 := ((unhide HCE) w0 (Below.refl _ _)).1
 have f1 := ((unhide HCE) w0 (Below.refl _ _)).2
 have HW := Lib.hid hw0
 generalize hr : bal n L = r
 have HR := Lib.hid hr
 have p0 := kP.cell 0
 have p1 := kP.cell 1
 have p2 := kP.cell 2
 have p3 := kP.cell 3
 have p4 := kP.cell 4
 have q0 := kP.frozen 0
 have q1 := kP.frozen 1
 have q2 := kP.frozen 2
 have q3 := kP.frozen 3
 have q4 := kP.frozen 4
 clear hx hw0 hB hr hc0 hc1
 by_cases h2 : 2 ≤ n
 case neg =>
  have HR := Lib.hid (show r = false from by rw [← HR.out]; exact bal_small h2)
  have e1 : (n : Int) < 2 := by omega
  clear h2
  go_enter Tryz.func75, Tryz.ntmps75
  go_upto_region 1 with fail
  rw [← HW.out]
  go_wp2_with fail
  refine bodyPost_ret (results_cell_tmp_row rfl _ _ (w.heap.size) 104 #[.int .i64 0, .int .i64 0, .int .i64 0, .int .i64 0, .int .i64 0] _ rfl (((((kP.set_ 0 _).set_ 1 _).set_ 2 _).set_ 3 _).set_ 4 _) Tryz.underlying104 rfl (by kernel_rfl)) rfl ?_
  rw [HR.out]
  exact ⟨_, _, _, _, _, rfl, ((((hb0).setCell (by show w.heap.size ≤ w.heap.size; omega) _).setCell (by show w.heap.size ≤ w.heap.size; omega) _).setCell (by show w.heap.size ≤ w.heap.size; omega) _ |>.setCell (by show w.heap.size ≤ w.heap.size; omega) _).setCell (by show w.heap.size ≤ w.heap.size; omega) _⟩
 by_cases hL : 0 < L.length
 case neg =>
  have HR := Lib.hid (show r = false from by rw [← HR.out]; exact bal_none hL)
  have e1 : ¬ (n : Int) < 2 := by omega
  have e2 : ((L.length : Int) == 0) = true := by rw [beq_iff_eq]; omega
  clear h2 hL
  go_enter Tryz.func75, Tryz.ntmps75
  go_upto_region 1 with fail
  rw [← HW.out]
  go_wp2_with fail
  refine bodyPost_ret (results_cell_tmp_row rfl _ _ (w.heap.size) 104 #[.int .i64 0, .int .i64 0, .int .i64 0, .int .i64 0, .int .i64 0] _ rfl (((((kP.set_ 0 _).set_ 1 _).set_ 2 _).set_ 3 _).set_ 4 _) Tryz.underlying104 rfl (by kernel_rfl)) rfl ?_
  rw [HR.out]
  exact ⟨_, _, _, _, _, rfl, ((((hb0).setCell (by show w.heap.size ≤ w.heap.size; omega) _).setCell (by show w.heap.size ≤ w.heap.size; omega) _).setCell (by show w.heap.size ≤ w.heap.size; omega) _ |>.setCell (by show w.heap.size ≤ w.heap.size; omega) _).setCell (by show w.heap.size ≤ w.heap.size; omega) _⟩
 have e1 : ¬ (n : Int) < 2 := by omega
 have e2 : ((L.length : Int) == 0) = false := by rw [beq_eq_false_iff_ne]; omega
 obtain ⟨gb, ob, rfl, hgb, hcc⟩ := (unhide HX).at_ hL
 obtain ⟨a0, c0, h0', hr0⟩ := hcc 0 hL
 rw [Nat.add_zero] at h0'
 have hl0 := hr0.len
 obtain ⟨K, hK⟩ : ∃ K, K = (nthL L 0).length := ⟨_, rfl⟩
 rw [← hK] at h0' hl0
 have HK := Lib.hid hK
 have HCC := hide hcc
 clear hcc hr0 hK
 go_enter Tryz.func75, Tryz.ntmps75
 go_upto_region 1 with fail
 rw [← HW.out]
 go_wp2_with fail
 clear f0 f1 p0 p1 p2 p3 p4 q0 q1 q2 q3 q4
 go_loopw [5] (fun iv wr => ∃ i : Nat, iv = .int .i64 i ∧ i ≤ L.length ∧ Hid (∀ k, k < i → (nthL L k).length = K ∧ 2 ≤ K) ∧ Below w0.heap.size w0 wr) (fun iv _ => L.length - (intOf iv).toNat)
 case atStart => exact ⟨0, rfl, Nat.zero_le _, fun k hk => by omega, Below.refl _ _⟩
 case round =>
  obtain ⟨i, rfl, hi, hq, hb⟩ := hrel
  by_cases hil : i < L.length
  · obtain ⟨ai, ci, h3', hri⟩ := (unhide HCC) i hil
    have h3 := (hb.cell (p := ⟨gb, ob + i, none⟩) hgb).trans h3'
    have h0 := (hb.cell (p := ⟨gb, ob, none⟩) hgb).trans h0'
    have hrl := hri.len
    obtain ⟨d0, d1⟩ := unhide HCE _ hb
    obtain ⟨N, hN⟩ : ∃ N, N = (nthL L i).length := ⟨_, rfl⟩
    rw [← hN] at h3 hrl
    have HN := Lib.hid hN
    clear hri h3' hN
    by_cases hle : N = K
    · have e5 : ((N : Int) != (K : Int)) = false := by rw [bne_eq_false_iff_eq]; omega
      have HLE := Lib.hid hle
      clear hle
      by_cases hk2 : 2 ≤ K
      · have e6 : ¬ (K : Int) < 2 := by omega
        go_wp2
        go_roundw
        case rel => exact ⟨i + 1, by go_num, by omega, (by show ∀ k, k < i + 1 → (nthL L k).length = K ∧ 2 ≤ K; intro k hk; by_cases e : k < i; exact hq.out k e; have : k = i := (by omega); rw [this, ← HN.out]; exact ⟨HLE.out, hk2⟩), hb⟩
        case measure => simp only [intOf]; omega
      · have e6 : (K : Int) < 2 := by omega
        have HR := Lib.hid (show r = false from by rw [← HR.out]; exact bal_short (by rw [← HK.out]; exact hk2))
        clear hk2
        have k1 := kP.below hb kP.lt
        have p0 := k1.cell 0
        have p1 := k1.cell 1
        have p2 := k1.cell 2
        have p3 := k1.cell 3
        have p4 := k1.cell 4
        have q0 := k1.frozen 0
        have q1 := k1.frozen 1
        have q2 := k1.frozen 2
        have q3 := k1.frozen 3
        have q4 := k1.frozen 4
        go_wp2
        refine bodyPost_ret (results_cell_tmp_row rfl _ _ (w.heap.size) 104 #[.int .i64 0, .int .i64 0, .int .i64 0, .int .i64 0, .int .i64 0] _ rfl (((((k1.set_ 0 _).set_ 1 _).set_ 2 _).set_ 3 _).set_ 4 _) Tryz.underlying104 rfl (by kernel_rfl)) rfl ?_
        rw [HR.out]
        exact ⟨_, _, _, _, _, rfl, ((((hb0.trans (hb.mono (by omega))).setCell (by show w.heap.size ≤ w.heap.size; omega) _).setCell (by show w.heap.size ≤ w.heap.size; omega) _).setCell (by show w.heap.size ≤ w.heap.size; omega) _ |>.setCell (by show w.heap.size ≤ w.heap.size; omega) _).setCell (by show w.heap.size ≤ w.heap.size; omega) _⟩
    · have e5 : ((N : Int) != (K : Int)) = true := by rw [bne_iff_ne]; omega
      have HR := Lib.hid (show r = false from by rw [← HR.out]; exact bal_len (allLen_no hil (by rw [← HN.out, ← HK.out]; exact hle)))
      clear hle
      have k1 := kP.below hb kP.lt
      have p0 := k1.cell 0
      have p1 := k1.cell 1
      have p2 := k1.cell 2
      have p3 := k1.cell 3
      have p4 := k1.cell 4
      have q0 := k1.frozen 0
      have q1 := k1.frozen 1
      have q2 := k1.frozen 2
      have q3 := k1.frozen 3
      have q4 := k1.frozen 4
      go_wp2
      refine bodyPost_ret (results_cell_tmp_row rfl _ _ (w.heap.size) 104 #[.int .i64 0, .int .i64 0, .int .i64 0, .int .i64 0, .int .i64 0] _ rfl (((((k1.set_ 0 _).set_ 1 _).set_ 2 _).set_ 3 _).set_ 4 _) Tryz.underlying104 rfl (by kernel_rfl)) rfl ?_
      rw [HR.out]
      exact ⟨_, _, _, _, _, rfl, ((((hb0.trans (hb.mono (by omega))).setCell (by show w.heap.size ≤ w.heap.size; omega) _).setCell (by show w.heap.size ≤ w.heap.size; omega) _).setCell (by show w.heap.size ≤ w.heap.size; omega) _ |>.setCell (by show w.heap.size ≤ w.heap.size; omega) _).setCell (by show w.heap.size ≤ w.heap.size; omega) _⟩
  · have hie : i = L.length := by omega
    have hk2 : 2 ≤ K := (hq.out 0 (by omega)).2
    have hal : allLen L = true := allLen_yes fun k hk => by rw [(hq.out k (by omega)).1, HK.out]
    have HAL := Lib.hid hal
    obtain ⟨d0, d1⟩ := unhide HCE _ hb
    clear hal hie hq
    go_wp2_with fail
    refine ((unhide HPC) _ hb).mono ?_
    rintro e wl ⟨v1, rfl, o1, b1⟩
    have hbl := hb.trans (b1.mono hb.size)
    obtain ⟨va, vc, rfl, _, _⟩ := o1.form
    have hpp := pairsUp_pos L h2
    have hpl := pairsUp_len n L n
    have hpl2 : n * n ≤ 32 * 32 := Nat.mul_le_mul (by omega) hn
    obtain ⟨PU, hPU⟩ : ∃ PU, PU = pairsUp n L n := ⟨_, rfl⟩
    rw [← hPU] at o1 hpp hpl
    rw [← hPU]
    have HPU := Lib.hid hPU
    have HV := hide o1
    clear o1 hPU d0 d1 b1
    go_wp2_with fail
    rcases (unhide HV).slice_form with ⟨_, e⟩ | ⟨gv, c', e, hv1, hv2⟩
    · exfalso; rw [e] at hpp; simp at hpp
    injection e with e e' e''
    subst e
    subst e''
    clear e'
    go_loopw [7] (fun iv wr => ∃ i : Nat, iv = .int .i64 i ∧ i ≤ PU.length ∧ Hid (∀ k, k < i → nth PU k = nth PU 0) ∧ Below wl.heap.size wl wr) (fun iv _ => PU.length - (intOf iv).toNat)
    case atStart => exact ⟨0, rfl, Nat.zero_le _, fun k hk => by omega, Below.refl _ _⟩
    case round =>
     obtain ⟨i, rfl, hi, hq, hbq⟩ := hrel
     have hb := hbl.trans (hbq.mono hbl.size)
     have hv := (unhide HV).below hbq (Nat.le_refl _)
     have v0 := hv.cell (j := 0) hpp
     obtain ⟨z0, hz0⟩ : ∃ z0, z0 = nth PU 0 := ⟨_, rfl⟩
     rw [← hz0] at v0
     have HZ := Lib.hid hz0
     by_cases hil : i < PU.length
     · have vi := hv.cell (j := i) hil
       obtain ⟨zi, hzi⟩ : ∃ zi, zi = nth PU i := ⟨_, rfl⟩
       rw [← hzi] at vi
       have HZI := Lib.hid hzi
       clear hz0 hzi hv
       by_cases hzz : zi = z0
       · have e7 : (zi != z0) = false := by rw [bne_eq_false_iff_eq]; exact hzz
         have HZZ := Lib.hid hzz
         clear hzz
         go_wp2_with fail
         go_quiet (fail)
         go_wp2_with fail
         go_roundw
         case rel => exact ⟨i + 1, by go_num, by omega, (by show ∀ k, k < i + 1 → nth PU k = nth PU 0; intro k hk; by_cases e : k < i; exact hq.out k e; have : k = i := (by omega); rw [this, ← HZI.out, ← HZ.out]; exact HZZ.out), below_drewN hbq _⟩
         case measure => simp only [intOf]; omega
       · have e7 : (zi != z0) = true := by rw [bne_iff_ne]; exact hzz
         have HR := Lib.hid (show r = false from by rw [← HR.out]; exact bal_same (by rw [← HPU.out]; exact allSame_no hil (by rw [← HZI.out, ← HZ.out]; exact hzz)))
         clear hzz
         have k1 := kP.below hb kP.lt
         have p0 := k1.cell 0
         have p1 := k1.cell 1
         have p2 := k1.cell 2
         have p3 := k1.cell 3
         have p4 := k1.cell 4
         have q0 := k1.frozen 0
         have q1 := k1.frozen 1
         have q2 := k1.frozen 2
         have q3 := k1.frozen 3
         have q4 := k1.frozen 4
         go_wp2_with fail
         go_quiet (fail)
         go_wp2_with fail
         refine bodyPost_ret (results_cell_tmp_row rfl _ _ (w.heap.size) 104 #[.int .i64 0, .int .i64 0, .int .i64 0, .int .i64 0, .int .i64 0] _ rfl ((((((k1.drewN _).set_ 0 _).set_ 1 _).set_ 2 _).set_ 3 _).set_ 4 _) Tryz.underlying104 rfl (by kernel_rfl)) rfl ?_
         rw [HR.out]
         exact ⟨_, _, _, _, _, rfl, ((((below_drewN (hb0.trans (hb.mono (by omega))) _).setCell (by show w.heap.size ≤ w.heap.size; omega) _).setCell (by show w.heap.size ≤ w.heap.size; omega) _).setCell (by show w.heap.size ≤ w.heap.size; omega) _ |>.setCell (by show w.heap.size ≤ w.heap.size; omega) _).setCell (by show w.heap.size ≤ w.heap.size; omega) _⟩
     · have hie : i = PU.length := by omega
       have hsm : allSame PU = true := allSame_yes fun k hk => hq.out k (by omega)
       have HR := Lib.hid (show r = true from by rw [← HR.out]; exact bal_yes h2 hL (by rw [← HK.out]; exact hk2) HAL.out (by rw [← HPU.out]; exact hsm))
       have h0 := (hb.cell (p := ⟨gb, ob, none⟩) hgb).trans h0'
       have hn0 : 0 < n := by omega
       have BX := hide (show ∀ W, Below wr.heap.size wr W → (Below w0.heap.size w0 W ∧ W.cell? ⟨g, 0, none⟩ = some (.int .i64 (n : Int)) ∧ W.cell? ⟨g, 1, none⟩ = some (.slice (some ⟨gb, ob, none⟩) L.length rc) ∧ W.cell? ⟨gb, ob, none⟩ = some (.slice a0 K c0) ∧ W.cell? ⟨gv, 0, none⟩ = some (.int .i64 z0)) from fun W h => ⟨hb.trans (h.mono hb.size), ((unhide HCE) W (hb.trans (h.mono hb.size))).1, ((unhide HCE) W (hb.trans (h.mono hb.size))).2, ((hb.trans (h.mono hb.size)).cell (p := ⟨gb, ob, none⟩) hgb).trans h0', (h.cell (p := ⟨gv, 0, none⟩) (World.block_lt_of_cell? _ _ v0)).trans v0⟩)
       have HBR := hide hb
       clear hie hsm hq hz0 hv v0 h0
       go_upto_region 15 with fail
       refine wp_region_noPanic ?_
       refine wp_region_until (S := (fun W => Below w0.heap.size w0 W ∧ W.cell? ⟨g, 0, none⟩ = some (.int .i64 (n : Int)) ∧ W.cell? ⟨g, 1, none⟩ = some (.slice (some ⟨gb, ob, none⟩) L.length rc) ∧ W.cell? ⟨gb, ob, none⟩ = some (.slice a0 K c0) ∧ W.cell? ⟨gv, 0, none⟩ = some (.int .i64 z0))) 18 [(0, 0), (0, 1), (0, 2), (0, 3), (0, 4), (0, 5), (0, 6), (0, 7), (0, 8), (0, 9), (0, 13), (0, 14), (0, 15), (0, 16), (1, 10), (0, 11), (1, 12), (0, 17), (2, 18), (2, 19)] (by kernel_rfl) (by kernel_rfl) (by kernel_rfl) rfl (fun _ _ _ _ _ h => h) ?_ (fun hHeld => ?_)
       · exact (unhide BX) _ (Below.refl _ _).drew
       refine SeqU.take (by rfl) (v := ?hv1) (by rfl) ?hy1 ?hr1
       case hy1 =>
        intro w hSw
        try dsimp only at hSw
        go_simp
        try (with_reducible rfl)
       try simp only [Act.put, List.setIfInBounds_toArray, List.set_cons_zero, List.set_cons_succ]
       refine SeqU.take (by rfl) (v := ?hv2) (by rfl) ?hy2 ?hr2
       case hy2 =>
        intro w hSw
        try dsimp only at hSw
        go_simp
        try (with_reducible rfl)
       try simp only [Act.put, List.setIfInBounds_toArray, List.set_cons_zero, List.set_cons_succ]
       refine SeqU.take (by rfl) (v := ?hv3) (by rfl) ?hy3 ?hr3
       case hy3 =>
        intro w hSw
        try dsimp only at hSw
        go_simp
        try (with_reducible rfl)
       try simp only [Act.put, List.setIfInBounds_toArray, List.set_cons_zero, List.set_cons_succ]
       refine SeqU.take (by rfl) (v := ?hv4) (by rfl) ?hy4 ?hr4
       case hy4 =>
        intro w hSw
        try dsimp only at hSw
        go_simp
        try (with_reducible rfl)
       try simp only [Act.put, List.setIfInBounds_toArray, List.set_cons_zero, List.set_cons_succ]
       refine SeqU.take (by rfl) (v := ?hv5) (by rfl) ?hy5 ?hr5
       case hy5 =>
        intro w hSw
        try dsimp only at hSw
        go_simp
        try (with_reducible rfl)
       try simp only [Act.put, List.setIfInBounds_toArray, List.set_cons_zero, List.set_cons_succ]
       refine SeqU.take (by rfl) (v := ?hv6) (by rfl) ?hy6 ?hr6
       case hy6 =>
        intro w hSw
        try dsimp only at hSw
        go_simp
        try (with_reducible rfl)
       try simp only [Act.put, List.setIfInBounds_toArray, List.set_cons_zero, List.set_cons_succ]
       refine SeqU.take (by rfl) (v := ?hv7) (by rfl) ?hy7 ?hr7
       case hy7 =>
        intro w hSw
        try dsimp only at hSw
        go_simp
        try (with_reducible rfl)
       try simp only [Act.put, List.setIfInBounds_toArray, List.set_cons_zero, List.set_cons_succ]
       refine SeqU.take (by rfl) (v := ?hv8) (by rfl) ?hy8 ?hr8
       case hy8 =>
        intro w hSw
        try dsimp only at hSw
        go_simp
        try (with_reducible rfl)
       try simp only [Act.put, List.setIfInBounds_toArray, List.set_cons_zero, List.set_cons_succ]
       refine SeqU.take (by rfl) (v := ?hv9) (by rfl) ?hy9 ?hr9
       case hy9 =>
        intro w hSw
        try dsimp only at hSw
        go_simp
        try (with_reducible rfl)
       try simp only [Act.put, List.setIfInBounds_toArray, List.set_cons_zero, List.set_cons_succ]
       refine SeqU.take (by rfl) (v := ?hv10) (by rfl) ?hy10 ?hr10
       case hy10 =>
        intro w hSw
        try dsimp only at hSw
        go_simp
        try (with_reducible rfl)
       try simp only [Act.put, List.setIfInBounds_toArray, List.set_cons_zero, List.set_cons_succ]
       refine SeqU.take (by rfl) (v := ?hv11) (by rfl) ?hy11 ?hr11
       case hy11 =>
        intro w hSw
        try dsimp only at hSw
        go_simp
        try (with_reducible rfl)
       try simp only [Act.put, List.setIfInBounds_toArray, List.set_cons_zero, List.set_cons_succ]
       refine SeqU.take (by rfl) (v := ?hv12) (by rfl) ?hy12 ?hr12
       case hy12 =>
        intro w hSw
        try dsimp only at hSw
        go_simp
        try (with_reducible rfl)
       try simp only [Act.put, List.setIfInBounds_toArray, List.set_cons_zero, List.set_cons_succ]
       refine SeqU.take (by rfl) (v := ?hv13) (by rfl) ?hy13 ?hr13
       case hy13 =>
        intro w hSw
        try dsimp only at hSw
        go_simp
        try (with_reducible rfl)
       try simp only [Act.put, List.setIfInBounds_toArray, List.set_cons_zero, List.set_cons_succ]
       refine SeqU.take (by rfl) (v := ?hv14) (by rfl) ?hy14 ?hr14
       case hy14 =>
        intro w hSw
        try dsimp only at hSw
        go_simp
        try (with_reducible rfl)
       try simp only [Act.put, List.setIfInBounds_toArray, List.set_cons_zero, List.set_cons_succ]
       refine SeqU.call (by rfl) (fun K hK => ?_)
       go_simp
       refine ((unhide HRP) _ (And.left hHeld)).mono ?_
       rintro e w3 ⟨v3, xs3, rfl, o3, hl3, b3⟩
       have d3 := (And.left hHeld).trans (b3.mono (And.left hHeld).size)
       have key3 := hHeld
       have k1 := kP.below d3 kP.lt
       have p0 := k1.cell 0
       have p1 := k1.cell 1
       have p2 := k1.cell 2
       have p3 := k1.cell 3
       have p4 := k1.cell 4
       have q0 := k1.frozen 0
       have q1 := k1.frozen 1
       have q2 := k1.frozen 2
       have q3 := k1.frozen 3
       have q4 := k1.frozen 4
       rcases o3.slice_form with ⟨_, e9⟩ | ⟨g3, c3, rfl, hg3, hg4⟩
       · exfalso; rw [e9] at hl3; simp at hl3; omega
       rw [hl3] at o3
       have y0 := o3.cell (j := 0) (by omega)
       obtain ⟨zr, hzr⟩ : ∃ zr, zr = nth xs3 0 := ⟨_, rfl⟩
       rw [← hzr] at y0
       clear hzr
       refine hK.out _ _ ?_ (fun hHeld => ?_)
       · exact ⟨d3, ((unhide HCE) _ d3).1, ((unhide HCE) _ d3).2, (b3.cell (p := ⟨gb, ob, none⟩) (World.block_lt_of_cell? _ _ hHeld.2.2.2.1)).trans hHeld.2.2.2.1, (b3.cell (p := ⟨gv, 0, none⟩) (World.block_lt_of_cell? _ _ hHeld.2.2.2.2)).trans hHeld.2.2.2.2⟩
       clear hK K
       try simp only [Act.put, List.setIfInBounds_toArray, List.set_cons_zero, List.set_cons_succ]
       refine SeqU.take (by rfl) (v := ?hv15) (by rfl) ?hy15 ?hr15
       case hy15 =>
        intro w hSw
        try dsimp only at hSw
        go_simp
        try (with_reducible rfl)
       try simp only [Act.put, List.setIfInBounds_toArray, List.set_cons_zero, List.set_cons_succ]
       refine SeqU.call (by rfl) (fun K hK => ?_)
       go_simp
       skip
       refine hK.out _ _ ?_ (fun hHeld => ?_)
       · exact ⟨d3, ((unhide HCE) _ d3).1, ((unhide HCE) _ d3).2, (b3.cell (p := ⟨gb, ob, none⟩) (World.block_lt_of_cell? _ _ key3.2.2.2.1)).trans key3.2.2.2.1, (b3.cell (p := ⟨gv, 0, none⟩) (World.block_lt_of_cell? _ _ key3.2.2.2.2)).trans key3.2.2.2.2⟩
       clear hK K
       try simp only [Act.put, List.setIfInBounds_toArray, List.set_cons_zero, List.set_cons_succ]
       refine SeqU.take (by rfl) (v := ?hv16) (by rfl) ?hy16 ?hr16
       case hy16 =>
        intro w hSw
        try dsimp only at hSw
        go_simp
        try (with_reducible rfl)
       try simp only [Act.put, List.setIfInBounds_toArray, List.set_cons_zero, List.set_cons_succ]
       refine SeqU.last (by rfl) (fun K hK => ?_)
       go_simp
       skip
       refine hK.out _ _ ?_
       clear hK K
       try simp only [Act.put, List.setIfInBounds_toArray, List.set_cons_zero, List.set_cons_succ]
       refine SeqU.last (by rfl) (fun K hK => ?_)
       go_simp
       skip
       refine hK.out _ _ ?_
       clear hK K
       try simp only [Act.put, List.setIfInBounds_toArray, List.set_cons_zero, List.set_cons_succ]
       refine SeqU.done (NoPanic.normal ?_)
       go_wp2_with fail
       refine bodyPost_ret (results_cell_tmp_row rfl _ _ (w.heap.size) 104 #[.int .i64 (n : Int), .int .i64 (L.length : Int), .int .i64 zr, .int .i64 (K : Int), .int .i64 z0] _ rfl (((((k1.set_ 0 _).set_ 1 _).set_ 2 _).set_ 3 _).set_ 4 _) Tryz.underlying104 rfl (by kernel_rfl)) rfl ?_
       rw [HR.out]
       exact ⟨_, _, _, _, _, rfl, ((((hb0.trans (d3.mono (by omega))).setCell (by show w.heap.size ≤ w.heap.size; omega) _).setCell (by show w.heap.size ≤ w.heap.size; omega) _).setCell (by show w.heap.size ≤ w.heap.size; omega) _ |>.setCell (by show w.heap.size ≤ w.heap.size; omega) _).setCell (by show w.heap.size ≤ w.heap.size; omega) _⟩
end Go.Proofs.YtgfcbmflnldicaaGreat
namespace Go.Proofs.YtgfcbmflnldicaaGreat
open Go.RowKit
attribute [local go_sem ↓] Go.wp_at_zero Go.wp_at_succ
theorem parametersOf_any (n : Nat) (ra : Option Addr) (rc : Nat) (L : List (List Int)) (w : World) (hx : RdS w ra L) (hcap : CapS w ra L) (hn : n ≤ 32) (hm : L.length ≤ 128) (hB : ∀ k, k < L.length → okB n (nthL L k) = true) :
    Calls Tryz.prog 77 #[.agg #[.int .i64 (n : Int), .slice ra L.length rc]] w (ResP w (bal n L)) := by
 obtain ⟨w0, hw0⟩ : ∃ w0, w0 = (w.alloc (.cells #[.int .i64 (n : Int), .slice ra L.length rc] 47)).alloc (.cells #[.int .i64 0, .int .i64 0, .int .i64 0, .int .i64 0, .int .i64 0] 104) := ⟨_, rfl⟩
 have hb0 : Below w.heap.size w w0 := by rw [hw0]; exact ((Below.refl _ _).alloc (Nat.le_refl _) _).alloc (by simp) _
 have kD : Blk w0 w.heap.size 47 #[.int .i64 (n : Int), .slice ra L.length rc] := by rw [hw0]; exact (Blk.new _ _ _ rfl).alloc _
 have kP : Blk w0 (w.heap.size + 1) 104 #[.int .i64 0, .int .i64 0, .int .i64 0, .int .i64 0, .int .i64 0] := by rw [hw0]; exact Blk.new _ _ _ (by simp)
 have s0 : w.heap.size + 1 < w0.heap.size := kP.lt
 have HCE := hide (show ∀ W, Below w0.heap.size w0 W → W.cell? ⟨w.heap.size, 0, none⟩ = some (.int .i64 (n : Int)) ∧ W.cell? ⟨w.heap.size, 1, none⟩ = some (.slice ra L.length rc) from fun W h => ⟨(kD.below h kD.lt).cell 0, (kD.below h kD.lt).cell 1⟩)
 have HPC := hide (show ∀ W, Below w0.heap.size w0 W → Calls Tryz.prog 145 #[.agg #[.int .i64 (n : Int), .slice ra L.length rc]] W fun e w' => ∃ v, e = .returned v ∧ Own w' W.heap.size v (pairsUp n L n) ∧ Below W.heap.size W w' from fun W h => pairCounts_any n ra rc L W ((hx.below hb0).below h) ((hcap.below hx hb0).below (hx.below hb0) h) hn hm hB)
 have HRP := hide (show ∀ W, Below w0.heap.size w0 W → Calls Tryz.prog 146 #[.agg #[.int .i64 (n : Int), .slice ra L.length rc]] W fun e w' => ∃ v xs, e = .returned v ∧ Own w' W.heap.size v xs ∧ xs.length = n ∧ Below W.heap.size W w' from fun W h => replicationsOf_any n ra rc L W ((hx.below hb0).below h) hn hB)
 have HSZ1 := hide (fun W => sizeS_any ra L.length rc W)
 have HSZ2 := hide (fun ap k cp W => size_any ap k cp W)
 have HX := hide (hx.below hb0)
 have f0 := kD.cell 0
 have f1 := kD.cell 1
 have HW := Lib.hid hw0
 generalize hr : bal n L = r
 have HR := Lib.hid hr
 have p0 := kP.cell 0
 have p1 := kP.cell 1
 have p2 := kP.cell 2
 have p3 := kP.cell 3
 have p4 := kP.cell 4
 have q0 := kP.frozen 0
 have q1 := kP.frozen 1
 have q2 := kP.frozen 2
 have q3 := kP.frozen 3
 have q4 := kP.frozen 4
 clear hx hw0 hB hr hcap
 by_cases h2 : 2 ≤ n
 case neg =>
  have HR := Lib.hid (show r = false from by rw [← HR.out]; exact bal_small h2)
  have e1 : (n : Int) < 2 := by omega
  clear h2
  go_enter Tryz.func77, Tryz.ntmps77
  go_upto_region 1 with fail
  rw [← HW.out]
  go_wp2_with fail
  refine bodyPost_ret (results_cell_tmp_row rfl _ _ (w.heap.size + 1) 104 #[.int .i64 0, .int .i64 0, .int .i64 0, .int .i64 0, .int .i64 0] _ rfl (((((kP.set_ 0 _).set_ 1 _).set_ 2 _).set_ 3 _).set_ 4 _) Tryz.underlying104 rfl (by kernel_rfl)) rfl ?_
  rw [HR.out]
  exact ⟨_, _, _, _, _, rfl, ((((hb0).setCell (by show w.heap.size ≤ w.heap.size + 1; omega) _).setCell (by show w.heap.size ≤ w.heap.size + 1; omega) _).setCell (by show w.heap.size ≤ w.heap.size + 1; omega) _ |>.setCell (by show w.heap.size ≤ w.heap.size + 1; omega) _).setCell (by show w.heap.size ≤ w.heap.size + 1; omega) _⟩
 by_cases hL : 0 < L.length
 case neg =>
  have HR := Lib.hid (show r = false from by rw [← HR.out]; exact bal_none hL)
  have e1 : ¬ (n : Int) < 2 := by omega
  have e2 : ((L.length : Int) == 0) = true := by rw [beq_iff_eq]; omega
  clear h2 hL
  go_enter Tryz.func77, Tryz.ntmps77
  go_upto_region 1 with fail
  rw [← HW.out]
  go_wp2_with fail
  refine bodyPost_ret (results_cell_tmp_row rfl _ _ (w.heap.size + 1) 104 #[.int .i64 0, .int .i64 0, .int .i64 0, .int .i64 0, .int .i64 0] _ rfl (((((kP.set_ 0 _).set_ 1 _).set_ 2 _).set_ 3 _).set_ 4 _) Tryz.underlying104 rfl (by kernel_rfl)) rfl ?_
  rw [HR.out]
  exact ⟨_, _, _, _, _, rfl, ((((hb0).setCell (by show w.heap.size ≤ w.heap.size + 1; omega) _).setCell (by show w.heap.size ≤ w.heap.size + 1; omega) _).setCell (by show w.heap.size ≤ w.heap.size + 1; omega) _ |>.setCell (by show w.heap.size ≤ w.heap.size + 1; omega) _).setCell (by show w.heap.size ≤ w.heap.size + 1; omega) _⟩
 have e1 : ¬ (n : Int) < 2 := by omega
 have e2 : ((L.length : Int) == 0) = false := by rw [beq_eq_false_iff_ne]; omega
 obtain ⟨gb, ob, rfl, hgb, hcc⟩ := (unhide HX).at_ hL
 obtain ⟨a0, c0, h0', hr0⟩ := hcc 0 hL
 rw [Nat.add_zero] at h0'
 have hl0 := hr0.len
 obtain ⟨K, hK⟩ : ∃ K, K = (nthL L 0).length := ⟨_, rfl⟩
 rw [← hK] at h0' hl0
 have HK := Lib.hid hK
 have HCC := hide hcc
 clear hcc hr0 hK
 by_cases hk2 : 2 ≤ K
 case neg =>
  have HR := Lib.hid (show r = false from by rw [← HR.out]; exact bal_short (by rw [← HK.out]; exact hk2))
  have e3 : (K : Int) < 2 := by omega
  clear h2 hk2
  go_enter Tryz.func77, Tryz.ntmps77
  go_upto_region 1 with fail
  rw [← HW.out]
  go_wp2_with fail
  refine bodyPost_ret (results_cell_tmp_row rfl _ _ (w.heap.size + 1) 104 #[.int .i64 0, .int .i64 0, .int .i64 0, .int .i64 0, .int .i64 0] _ rfl (((((kP.set_ 0 _).set_ 1 _).set_ 2 _).set_ 3 _).set_ 4 _) Tryz.underlying104 rfl (by kernel_rfl)) rfl ?_
  rw [HR.out]
  exact ⟨_, _, _, _, _, rfl, ((((hb0).setCell (by show w.heap.size ≤ w.heap.size + 1; omega) _).setCell (by show w.heap.size ≤ w.heap.size + 1; omega) _).setCell (by show w.heap.size ≤ w.heap.size + 1; omega) _ |>.setCell (by show w.heap.size ≤ w.heap.size + 1; omega) _).setCell (by show w.heap.size ≤ w.heap.size + 1; omega) _⟩
 have e3 : ¬ (K : Int) < 2 := by omega
 go_enter Tryz.func77, Tryz.ntmps77
 go_upto_region 1 with fail
 rw [← HW.out]
 go_wp2_with fail
 refine ((unhide HPC) _ (Below.refl _ _)).mono ?_
 rintro e w1 ⟨v1, rfl, o1, b1⟩
 obtain ⟨va, vc, rfl, _, _⟩ := o1.form
 have hpp := pairsUp_pos L h2
 have hpl := pairsUp_len n L n
 have hpl2 : n * n ≤ 32 * 32 := Nat.mul_le_mul (by omega) hn
 obtain ⟨PU, hPU⟩ : ∃ PU, PU = pairsUp n L n := ⟨_, rfl⟩
 rw [← hPU] at o1 hpp hpl
 rw [← hPU]
 have HPU := Lib.hid hPU
 obtain ⟨d0, d1⟩ := unhide HCE _ b1
 have O1 := hide o1
 clear f0 f1 p0 p1 p2 p3 p4 q0 q1 q2 q3 q4 o1 hPU
 go_wp2_with fail
 go_loopw [32] (fun iv wr => ∃ i : Nat, iv = .int .i64 i ∧ i ≤ L.length ∧ Hid (∀ k, k < i → (nthL L k).length = K) ∧ Below w1.heap.size w1 wr) (fun iv _ => L.length - (intOf iv).toNat)
 case atStart => exact ⟨0, rfl, Nat.zero_le _, fun k hk => by omega, Below.refl _ _⟩
 case round =>
  obtain ⟨i, rfl, hi, hq, hbq⟩ := hrel
  have hb := b1.trans (hbq.mono b1.size)
  by_cases hil : i < L.length
  · obtain ⟨ai, ci, h3', hri⟩ := (unhide HCC) i hil
    have h3 := (hb.cell (p := ⟨gb, ob + i, none⟩) hgb).trans h3'
    have h0 := (hb.cell (p := ⟨gb, ob, none⟩) hgb).trans h0'
    have hrl := hri.len
    obtain ⟨d0, d1⟩ := unhide HCE _ hb
    obtain ⟨N, hN⟩ : ∃ N, N = (nthL L i).length := ⟨_, rfl⟩
    rw [← hN] at h3 hrl
    have HN := Lib.hid hN
    clear hri h3' hN
    by_cases hle : N = K
    · have e5 : ((N : Int) != (K : Int)) = false := by rw [bne_eq_false_iff_eq]; omega
      have HLE := Lib.hid hle
      clear hle
      go_wp2
      go_roundw
      case rel => exact ⟨i + 1, by go_num, by omega, (by show ∀ k, k < i + 1 → (nthL L k).length = K; intro k hk; by_cases e : k < i; exact hq.out k e; have : k = i := (by omega); rw [this, ← HN.out]; exact HLE.out), hbq⟩
      case measure => simp only [intOf]; omega
    · have e5 : ((N : Int) != (K : Int)) = true := by rw [bne_iff_ne]; omega
      have HR := Lib.hid (show r = false from by rw [← HR.out]; exact bal_len (allLen_no hil (by rw [← HN.out, ← HK.out]; exact hle)))
      clear hle
      have k1 := kP.below hb kP.lt
      have p0 := k1.cell 0
      have p1 := k1.cell 1
      have p2 := k1.cell 2
      have p3 := k1.cell 3
      have p4 := k1.cell 4
      have q0 := k1.frozen 0
      have q1 := k1.frozen 1
      have q2 := k1.frozen 2
      have q3 := k1.frozen 3
      have q4 := k1.frozen 4
      go_wp2
      refine bodyPost_ret (results_cell_tmp_row rfl _ _ (w.heap.size + 1) 104 #[.int .i64 0, .int .i64 0, .int .i64 0, .int .i64 0, .int .i64 0] _ rfl (((((k1.set_ 0 _).set_ 1 _).set_ 2 _).set_ 3 _).set_ 4 _) Tryz.underlying104 rfl (by kernel_rfl)) rfl ?_
      rw [HR.out]
      exact ⟨_, _, _, _, _, rfl, ((((hb0.trans (hb.mono (by omega))).setCell (by show w.heap.size ≤ w.heap.size + 1; omega) _).setCell (by show w.heap.size ≤ w.heap.size + 1; omega) _).setCell (by show w.heap.size ≤ w.heap.size + 1; omega) _ |>.setCell (by show w.heap.size ≤ w.heap.size + 1; omega) _).setCell (by show w.heap.size ≤ w.heap.size + 1; omega) _⟩
  · have hie : i = L.length := by omega
    have hal : allLen L = true := allLen_yes fun k hk => by rw [hq.out k (by omega), HK.out]
    have HAL := Lib.hid hal
    have hv := (unhide O1).below hbq (Nat.le_refl _)
    rename World => wl
    have HV := hide hv
    have hbl := hb
    clear hal hie hq hbq hv d0 d1
    go_wp2_with fail
    rcases (unhide HV).slice_form with ⟨_, e⟩ | ⟨gv, c', e, hv1, hv2⟩
    · exfalso; rw [e] at hpp; simp at hpp
    injection e with e e' e''
    subst e
    subst e''
    clear e'
    go_loopw [48] (fun iv wr => ∃ i : Nat, iv = .int .i64 i ∧ i ≤ PU.length ∧ Hid (∀ k, k < i → nth PU k = nth PU 0) ∧ Below wl.heap.size wl wr) (fun iv _ => PU.length - (intOf iv).toNat)
    case atStart => exact ⟨0, rfl, Nat.zero_le _, fun k hk => by omega, Below.refl _ _⟩
    case round =>
     obtain ⟨i, rfl, hi, hq, hbq⟩ := hrel
     have hb := hbl.trans (hbq.mono hbl.size)
     have hv := (unhide HV).below hbq (Nat.le_refl _)
     have v0 := hv.cell (j := 0) hpp
     obtain ⟨z0, hz0⟩ : ∃ z0, z0 = nth PU 0 := ⟨_, rfl⟩
     rw [← hz0] at v0
     have HZ := Lib.hid hz0
     by_cases hil : i < PU.length
     · have vi := hv.cell (j := i) hil
       obtain ⟨zi, hzi⟩ : ∃ zi, zi = nth PU i := ⟨_, rfl⟩
       rw [← hzi] at vi
       have HZI := Lib.hid hzi
       clear hz0 hzi hv
       by_cases hzz : zi = z0
       · have e7 : (zi != z0) = false := by rw [bne_eq_false_iff_eq]; exact hzz
         have HZZ := Lib.hid hzz
         clear hzz
         go_wp2
         go_roundw
         case rel => exact ⟨i + 1, by go_num, by omega, (by show ∀ k, k < i + 1 → nth PU k = nth PU 0; intro k hk; by_cases e : k < i; exact hq.out k e; have : k = i := (by omega); rw [this, ← HZI.out, ← HZ.out]; exact HZZ.out), hbq⟩
         case measure => simp only [intOf]; omega
       · have e7 : (zi != z0) = true := by rw [bne_iff_ne]; exact hzz
         have HR := Lib.hid (show r = false from by rw [← HR.out]; exact bal_same (by rw [← HPU.out]; exact allSame_no hil (by rw [← HZI.out, ← HZ.out]; exact hzz)))
         clear hzz
         have k1 := kP.below hb kP.lt
         have p0 := k1.cell 0
         have p1 := k1.cell 1
         have p2 := k1.cell 2
         have p3 := k1.cell 3
         have p4 := k1.cell 4
         have q0 := k1.frozen 0
         have q1 := k1.frozen 1
         have q2 := k1.frozen 2
         have q3 := k1.frozen 3
         have q4 := k1.frozen 4
         go_wp2
         refine bodyPost_ret (results_cell_tmp_row rfl _ _ (w.heap.size + 1) 104 #[.int .i64 0, .int .i64 0, .int .i64 0, .int .i64 0, .int .i64 0] _ rfl (((((k1.set_ 0 _).set_ 1 _).set_ 2 _).set_ 3 _).set_ 4 _) Tryz.underlying104 rfl (by kernel_rfl)) rfl ?_
         rw [HR.out]
         exact ⟨_, _, _, _, _, rfl, ((((hb0.trans (hb.mono (by omega))).setCell (by show w.heap.size ≤ w.heap.size + 1; omega) _).setCell (by show w.heap.size ≤ w.heap.size + 1; omega) _).setCell (by show w.heap.size ≤ w.heap.size + 1; omega) _ |>.setCell (by show w.heap.size ≤ w.heap.size + 1; omega) _).setCell (by show w.heap.size ≤ w.heap.size + 1; omega) _⟩
     · have hie : i = PU.length := by omega
       have hsm : allSame PU = true := allSame_yes fun k hk => hq.out k (by omega)
       have HR := Lib.hid (show r = true from by rw [← HR.out]; exact bal_yes h2 hL (by rw [← HK.out]; exact hk2) HAL.out (by rw [← HPU.out]; exact hsm))
       have h0 := (hb.cell (p := ⟨gb, ob, none⟩) hgb).trans h0'
       have hn0 : 0 < n := by omega
       have BX := hide (show ∀ W, Below wr.heap.size wr W → (Below w0.heap.size w0 W ∧ W.cell? ⟨w.heap.size, 0, none⟩ = some (.int .i64 (n : Int)) ∧ W.cell? ⟨w.heap.size, 1, none⟩ = some (.slice (some ⟨gb, ob, none⟩) L.length rc) ∧ W.cell? ⟨gb, ob, none⟩ = some (.slice a0 K c0) ∧ W.cell? ⟨gv, 0, none⟩ = some (.int .i64 z0)) from fun W h => ⟨hb.trans (h.mono hb.size), ((unhide HCE) W (hb.trans (h.mono hb.size))).1, ((unhide HCE) W (hb.trans (h.mono hb.size))).2, ((hb.trans (h.mono hb.size)).cell (p := ⟨gb, ob, none⟩) hgb).trans h0', (h.cell (p := ⟨gv, 0, none⟩) (World.block_lt_of_cell? _ _ v0)).trans v0⟩)
       have HBR := hide hb
       clear hie hsm hq hz0 hv v0 h0
       go_upto_region 16 with fail
       refine wp_region_noPanic ?_
       refine wp_region_tree (S := (fun W => Below w0.heap.size w0 W ∧ W.cell? ⟨w.heap.size, 0, none⟩ = some (.int .i64 (n : Int)) ∧ W.cell? ⟨w.heap.size, 1, none⟩ = some (.slice (some ⟨gb, ob, none⟩) L.length rc) ∧ W.cell? ⟨gb, ob, none⟩ = some (.slice a0 K c0) ∧ W.cell? ⟨gv, 0, none⟩ = some (.int .i64 z0))) 18 (.take 0 (.take 1 (.take 2 (.take 3 (.take 5 (.take 9 (.take 10 (.take 11 (.take 12 (.take 14 (.take 15 (.take 16 (.call 4 (.call 6 (.take 7 (.two 8 13 (.call 13 (.take 17 (.last 18 (.last 19 .done)))) (.call 8 (.take 17 (.last 18 (.last 19 .done)))))))))))))))))))) (by kernel_rfl) (by kernel_rfl) (by kernel_rfl) (by decide) (fun _ _ _ _ _ h => h) ?_ (fun hHeld => ?_)
       · exact (unhide BX) _ (Below.refl _ _).drew
       refine SeqT.take (by rfl) (v := ?hv9001) (by rfl) ?hy9001 ?hr9001
       case hy9001 =>
        intro w hSw
        try dsimp only at hSw
        go_simp
        try (with_reducible rfl)
       try simp only [Act.put, List.setIfInBounds_toArray, List.set_cons_zero, List.set_cons_succ]
       refine SeqT.take (by rfl) (v := ?hv9002) (by rfl) ?hy9002 ?hr9002
       case hy9002 =>
        intro w hSw
        try dsimp only at hSw
        go_simp
        try (with_reducible rfl)
       try simp only [Act.put, List.setIfInBounds_toArray, List.set_cons_zero, List.set_cons_succ]
       refine SeqT.take (by rfl) (v := ?hv9003) (by rfl) ?hy9003 ?hr9003
       case hy9003 =>
        intro w hSw
        try dsimp only at hSw
        go_simp
        try (with_reducible rfl)
       try simp only [Act.put, List.setIfInBounds_toArray, List.set_cons_zero, List.set_cons_succ]
       refine SeqT.take (by rfl) (v := ?hv9004) (by rfl) ?hy9004 ?hr9004
       case hy9004 =>
        intro w hSw
        try dsimp only at hSw
        go_simp
        try (with_reducible rfl)
       try simp only [Act.put, List.setIfInBounds_toArray, List.set_cons_zero, List.set_cons_succ]
       refine SeqT.take (by rfl) (v := ?hv9005) (by rfl) ?hy9005 ?hr9005
       case hy9005 =>
        intro w hSw
        try dsimp only at hSw
        go_simp
        try (with_reducible rfl)
       try simp only [Act.put, List.setIfInBounds_toArray, List.set_cons_zero, List.set_cons_succ]
       refine SeqT.take (by rfl) (v := ?hv9006) (by rfl) ?hy9006 ?hr9006
       case hy9006 =>
        intro w hSw
        try dsimp only at hSw
        go_simp
        try (with_reducible rfl)
       try simp only [Act.put, List.setIfInBounds_toArray, List.set_cons_zero, List.set_cons_succ]
       refine SeqT.take (by rfl) (v := ?hv9007) (by rfl) ?hy9007 ?hr9007
       case hy9007 =>
        intro w hSw
        try dsimp only at hSw
        go_simp
        try (with_reducible rfl)
       try simp only [Act.put, List.setIfInBounds_toArray, List.set_cons_zero, List.set_cons_succ]
       refine SeqT.take (by rfl) (v := ?hv9008) (by rfl) ?hy9008 ?hr9008
       case hy9008 =>
        intro w hSw
        try dsimp only at hSw
        go_simp
        try (with_reducible rfl)
       try simp only [Act.put, List.setIfInBounds_toArray, List.set_cons_zero, List.set_cons_succ]
       refine SeqT.take (by rfl) (v := ?hv9009) (by rfl) ?hy9009 ?hr9009
       case hy9009 =>
        intro w hSw
        try dsimp only at hSw
        go_simp
        try (with_reducible rfl)
       try simp only [Act.put, List.setIfInBounds_toArray, List.set_cons_zero, List.set_cons_succ]
       refine SeqT.take (by rfl) (v := ?hv9010) (by rfl) ?hy9010 ?hr9010
       case hy9010 =>
        intro w hSw
        try dsimp only at hSw
        go_simp
        try (with_reducible rfl)
       try simp only [Act.put, List.setIfInBounds_toArray, List.set_cons_zero, List.set_cons_succ]
       refine SeqT.take (by rfl) (v := ?hv9011) (by rfl) ?hy9011 ?hr9011
       case hy9011 =>
        intro w hSw
        try dsimp only at hSw
        go_simp
        try (with_reducible rfl)
       try simp only [Act.put, List.setIfInBounds_toArray, List.set_cons_zero, List.set_cons_succ]
       refine SeqT.take (by rfl) (v := ?hv9012) (by rfl) ?hy9012 ?hr9012
       case hy9012 =>
        intro w hSw
        try dsimp only at hSw
        go_simp
        try (with_reducible rfl)
       try simp only [Act.put, List.setIfInBounds_toArray, List.set_cons_zero, List.set_cons_succ]
       refine SeqT.call (by rfl) (fun K hK => ?_)
       go_simp
       refine ((unhide HSZ1) _).mono ?_
       rintro e w2 ⟨rfl, rfl⟩
       refine hK.out _ _ ?_ (fun hHeld => ?_)
       · exact hHeld
       clear hK K
       try simp only [Act.put, List.setIfInBounds_toArray, List.set_cons_zero, List.set_cons_succ]
       refine SeqT.call (by rfl) (fun K hK => ?_)
       go_simp
       refine ((unhide HRP) _ (And.left hHeld)).mono ?_
       rintro e w3 ⟨v3, xs3, rfl, o3, hl3, b3⟩
       have d3 := (And.left hHeld).trans (b3.mono (And.left hHeld).size)
       have hsr := (unhide HBR).size
       have key3 := hHeld
       have k1 := kP.below d3 kP.lt
       have p0 := k1.cell 0
       have p1 := k1.cell 1
       have p2 := k1.cell 2
       have p3 := k1.cell 3
       have p4 := k1.cell 4
       have q0 := k1.frozen 0
       have q1 := k1.frozen 1
       have q2 := k1.frozen 2
       have q3 := k1.frozen 3
       have q4 := k1.frozen 4
       rcases o3.slice_form with ⟨_, e9⟩ | ⟨g3, c3, rfl, hg3, hg4⟩
       · exfalso; rw [e9] at hl3; simp at hl3; omega
       rw [hl3] at o3
       have y0 := o3.cell (j := 0) (by omega)
       obtain ⟨zr, hzr⟩ : ∃ zr, zr = nth xs3 0 := ⟨_, rfl⟩
       rw [← hzr] at y0
       clear hzr
       refine hK.out _ _ ?_ (fun hHeld => ?_)
       · exact ⟨d3, ((unhide HCE) _ d3).1, ((unhide HCE) _ d3).2, (b3.cell (p := ⟨gb, ob, none⟩) (World.block_lt_of_cell? _ _ hHeld.2.2.2.1)).trans hHeld.2.2.2.1, (b3.cell (p := ⟨gv, 0, none⟩) (World.block_lt_of_cell? _ _ hHeld.2.2.2.2)).trans hHeld.2.2.2.2⟩
       clear hK K
       try simp only [Act.put, List.setIfInBounds_toArray, List.set_cons_zero, List.set_cons_succ]
       refine SeqT.take (by rfl) (v := ?hv9013) (by rfl) ?hy9013 ?hr9013
       case hy9013 =>
        intro w hSw
        try dsimp only at hSw
        go_simp
        try (with_reducible rfl)
       try simp only [Act.put, List.setIfInBounds_toArray, List.set_cons_zero, List.set_cons_succ]
       refine SeqT.two ?_ ?_
       · skip
         refine SeqT.call (by rfl) (fun K hK => ?_)
         go_simp
         skip
         refine hK.out _ _ ?_ (fun hHeld => ?_)
         · exact ⟨d3, ((unhide HCE) _ d3).1, ((unhide HCE) _ d3).2, (b3.cell (p := ⟨gb, ob, none⟩) (World.block_lt_of_cell? _ _ key3.2.2.2.1)).trans key3.2.2.2.1, (b3.cell (p := ⟨gv, 0, none⟩) (World.block_lt_of_cell? _ _ key3.2.2.2.2)).trans key3.2.2.2.2⟩
         clear hK K
         try simp only [Act.put, List.setIfInBounds_toArray, List.set_cons_zero, List.set_cons_succ]
         refine SeqT.call (by rfl) (fun K hK => ?_)
         go_simp
         refine ((unhide HSZ2) _ _ _ _).mono ?_
         rintro e w2 ⟨rfl, rfl⟩
         refine hK.out _ _ ?_ (fun hHeld => ?_)
         · exact hHeld
         clear hK K
         try simp only [Act.put, List.setIfInBounds_toArray, List.set_cons_zero, List.set_cons_succ]
         refine SeqT.take (by rfl) (v := ?hv9014) (by rfl) ?hy9014 ?hr9014
         case hy9014 =>
          intro w hSw
          try dsimp only at hSw
          go_simp
          try (with_reducible rfl)
         try simp only [Act.put, List.setIfInBounds_toArray, List.set_cons_zero, List.set_cons_succ]
         refine SeqT.last (by rfl) (fun K hK => ?_)
         go_simp
         refine hK.out _ _ ?_
         clear hK K
         try simp only [Act.put, List.setIfInBounds_toArray, List.set_cons_zero, List.set_cons_succ]
         refine SeqT.last (by rfl) (fun K hK => ?_)
         go_simp
         refine hK.out _ _ ?_
         clear hK K
         try simp only [Act.put, List.setIfInBounds_toArray, List.set_cons_zero, List.set_cons_succ]
         refine SeqT.done (NoPanic.normal ?_)
         go_wp2_with fail
         refine bodyPost_ret (results_cell_tmp_row rfl _ _ (w.heap.size + 1) 104 #[.int .i64 (n : Int), .int .i64 (L.length : Int), .int .i64 zr, .int .i64 (K : Int), .int .i64 z0] _ rfl (((((k1.set_ 0 _).set_ 1 _).set_ 2 _).set_ 3 _).set_ 4 _) Tryz.underlying104 rfl (by kernel_rfl)) rfl ?_
         rw [HR.out]
         exact ⟨_, _, _, _, _, rfl, ((((hb0.trans (d3.mono (by omega))).setCell (by show w.heap.size ≤ w.heap.size + 1; omega) _).setCell (by show w.heap.size ≤ w.heap.size + 1; omega) _).setCell (by show w.heap.size ≤ w.heap.size + 1; omega) _ |>.setCell (by show w.heap.size ≤ w.heap.size + 1; omega) _).setCell (by show w.heap.size ≤ w.heap.size + 1; omega) _⟩
       · skip
         refine SeqT.call (by rfl) (fun K hK => ?_)
         go_simp
         refine ((unhide HSZ2) _ _ _ _).mono ?_
         rintro e w2 ⟨rfl, rfl⟩
         refine hK.out _ _ ?_ (fun hHeld => ?_)
         · exact hHeld
         clear hK K
         try simp only [Act.put, List.setIfInBounds_toArray, List.set_cons_zero, List.set_cons_succ]
         refine SeqT.call (by rfl) (fun K hK => ?_)
         go_simp
         skip
         refine hK.out _ _ ?_ (fun hHeld => ?_)
         · exact ⟨d3, ((unhide HCE) _ d3).1, ((unhide HCE) _ d3).2, (b3.cell (p := ⟨gb, ob, none⟩) (World.block_lt_of_cell? _ _ key3.2.2.2.1)).trans key3.2.2.2.1, (b3.cell (p := ⟨gv, 0, none⟩) (World.block_lt_of_cell? _ _ key3.2.2.2.2)).trans key3.2.2.2.2⟩
         clear hK K
         try simp only [Act.put, List.setIfInBounds_toArray, List.set_cons_zero, List.set_cons_succ]
         refine SeqT.take (by rfl) (v := ?hv9015) (by rfl) ?hy9015 ?hr9015
         case hy9015 =>
          intro w hSw
          try dsimp only at hSw
          go_simp
          try (with_reducible rfl)
         try simp only [Act.put, List.setIfInBounds_toArray, List.set_cons_zero, List.set_cons_succ]
         refine SeqT.last (by rfl) (fun K hK => ?_)
         go_simp
         refine hK.out _ _ ?_
         clear hK K
         try simp only [Act.put, List.setIfInBounds_toArray, List.set_cons_zero, List.set_cons_succ]
         refine SeqT.last (by rfl) (fun K hK => ?_)
         go_simp
         refine hK.out _ _ ?_
         clear hK K
         try simp only [Act.put, List.setIfInBounds_toArray, List.set_cons_zero, List.set_cons_succ]
         refine SeqT.done (NoPanic.normal ?_)
         go_wp2_with fail
         refine bodyPost_ret (results_cell_tmp_row rfl _ _ (w.heap.size + 1) 104 #[.int .i64 (n : Int), .int .i64 (L.length : Int), .int .i64 zr, .int .i64 (K : Int), .int .i64 z0] _ rfl (((((k1.set_ 0 _).set_ 1 _).set_ 2 _).set_ 3 _).set_ 4 _) Tryz.underlying104 rfl (by kernel_rfl)) rfl ?_
         rw [HR.out]
         exact ⟨_, _, _, _, _, rfl, ((((hb0.trans (d3.mono (by omega))).setCell (by show w.heap.size ≤ w.heap.size + 1; omega) _).setCell (by show w.heap.size ≤ w.heap.size + 1; omega) _).setCell (by show w.heap.size ≤ w.heap.size + 1; omega) _ |>.setCell (by show w.heap.size ≤ w.heap.size + 1; omega) _).setCell (by show w.heap.size ≤ w.heap.size + 1; omega) _⟩
end Go.Proofs.YtgfcbmflnldicaaGreat
